/-
  The box of a stroke: program and reference find the same.
-/
import Derived.Test.YtnmmnikoogjhoaaStrokePlain
import Derived.Test.YtnmmnikoogjhoaaValidS
import Derived.Test.YtnmmnikoogjhoaaJoin
namespace Go.Proofs.Ytnmmnikoogjhoaa
set_option linter.unusedSimpArgs false
set_option linter.unusedVariables false
set_option maxRecDepth 20000
open Go.RowKit

theorem bk4 {w : World} {g : Nat} {t : TypeId} {a b c d : Value} (h : Bk w g t #[a, b, c, d]) :
    (w.cell? ⟨g, 0, none⟩ = some a ∧ w.cell? ⟨g, 1, none⟩ = some b ∧ w.cell? ⟨g, 2, none⟩ = some c ∧ w.cell? ⟨g, 3, none⟩ = some d) ∧
    w.frozen? ⟨g, 0, none⟩ = false ∧ w.frozen? ⟨g, 1, none⟩ = false ∧ w.frozen? ⟨g, 2, none⟩ = false ∧ w.frozen? ⟨g, 3, none⟩ = false :=
  ⟨⟨h.cell 0, h.cell 1, h.cell 2, h.cell 3⟩, h.frozen 0, h.frozen 1, h.frozen 2, h.frozen 3⟩
theorem bk4_put {w : World} {g : Nat} {t : TypeId} {a b c d a' b' c' d' : Value} (h : Bk w g t #[a, b, c, d]) :
    Bk ((((w.setCell ⟨g, 0, none⟩ a').setCell ⟨g, 1, none⟩ b').setCell ⟨g, 2, none⟩ c').setCell ⟨g, 3, none⟩ d') g t #[a', b', c', d'] := (((h.put 0 a').put 1 b').put 2 c').put 3 d'

set_option maxHeartbeats 1000000 in
theorem firstOf_any (A : Option Addr) (n c : Nat) (xs : List Pt) (w : World) (ha : Rd w A n 3 (rowOf ptC xs)) (la : xs.length = n) (h0 : 0 < xs.length) :
    Calls Try.prog 44 #[.agg #[.slice A n c]] w fun e w' => e = .returned (.agg #[.int .i64 xs[0].x, .int .i64 xs[0].y, .int .i64 xs[0].t]) ∧ Below w.heap.size w w' := by
  obtain ⟨b1, o1, rfl, l1, c1, c2, c3⟩ := ha.pt la h0
  simp only [Nat.zero_mul, Nat.add_zero] at c1 c2 c3
  have hn0 : 0 < n := by omega
  clear ha
  go_enter Try.func44, Try.ntmps44
  go_wp2_with fail
  go_returns
  exact ⟨rfl, by go_grown⟩
set_option maxHeartbeats 1000000 in
theorem lastOf_any (A : Option Addr) (n c : Nat) (xs : List Pt) (w : World) (ha : Rd w A n 3 (rowOf ptC xs)) (la : xs.length = n) (h0 : n - 1 < xs.length) (hn : n ≤ 1048576) :
    Calls Try.prog 45 #[.agg #[.slice A n c]] w fun e w' => e = .returned (.agg #[.int .i64 xs[n - 1].x, .int .i64 xs[n - 1].y, .int .i64 xs[n - 1].t]) ∧ Below w.heap.size w w' := by
  have hn0 : 0 < n := by omega
  obtain ⟨m, rfl⟩ : ∃ m, n = m + 1 := ⟨n - 1, by omega⟩
  simp only [Nat.add_sub_cancel] at h0 ⊢
  obtain ⟨b1, o1, rfl, l1, c1, c2, c3⟩ := ha.pt la h0
  have hm0 : (0 : Int) ≤ (m : Int) := by omega
  have LA := Lib.hid la
  clear ha hn0 la
  go_enter Try.func45, Try.ntmps45
  go_wp2_with fail
  go_returns
  exact ⟨rfl, by go_grown⟩

def boxROk (l : List Pt) : Bx × Int := (boxTo l l.length, 0)
def boxR (l : List Pt) : Bx × Int := if strB l = true then boxROk l else (⟨0, 0, 0, 0⟩, 1)
theorem boxTo_next {l : List Pt} {k : Nat} (hk : k < l.length) : boxTo l (k + 1) = joinB (boxTo l k) (ptBx l[k]) := by rw [boxTo, getD_at hk]

set_option maxHeartbeats 4000000 in
theorem boxOfStroke_any (A : Option Addr) (n c : Nat) (xs : List Pt) (w : World) (ha : Rd w A n 3 (rowOf ptC xs)) (la : xs.length = n) (h0 : 0 < xs.length) (hn : n ≤ 1048576) :
    Calls Try.prog 84 #[.agg #[.slice A n c]] w fun e w' => e = .returned (.agg #[.int .i64 (boxTo xs n).x1, .int .i64 (boxTo xs n).y1, .int .i64 (boxTo xs n).x2, .int .i64 (boxTo xs n).y2]) ∧ Below w.heap.size w w' := by
  have HA := Lib.hid ha
  have LA := Lib.hid la
  have H0 := Lib.hid h0
  have e0 : Hid (boxTo xs 0 = ptBx xs[0]) := by rw [Hid, boxTo, getD_at h0]; try rfl
  clear ha la
  go_enter Try.func84, Try.ntmps84
  go_wp2_with fail
  refine (firstOf_any A n c xs _ (by first | exact HA.out.alloc _ | exact (HA.out.alloc _).alloc _) LA.out H0.out).mono ?_
  rintro e w1 ⟨rfl, hb⟩
  have hz := hb.size
  simp only [World.size_alloc] at hz
  have hT : Below w.heap.size w w1 := Below.next (by go_grown) hb
  have hws : w.heap.size < w1.heap.size := by omega
  have hws1 : w.heap.size + 1 < w1.heap.size := by omega
  have hcs : w1.cell? ⟨w.heap.size, 0, none⟩ = some (.slice A n c) := (hb.cell (p := ⟨w.heap.size, 0, none⟩) (by simp; omega)).trans (by go_simp)
  have ho : Bk w1 (w.heap.size + 1) 37 #[.int .i64 0, .int .i64 0, .int .i64 0, .int .i64 0] := by
    exact (Bk.new1 w (.cells #[.slice A n c] 52) _ _).below hb (by simp)
  go_wp2_with fail
  obtain ⟨⟨o0, o1, o2, o3⟩, p0, p1, p2, p3⟩ := bk4 ho
  have hbk0 : Bk ((w1.alloc (.cells #[.int .i64 xs[0].x, .int .i64 xs[0].y, .int .i64 xs[0].t] 72)).alloc (.cells #[.int .i64 xs[0].x, .int .i64 xs[0].y, .int .i64 xs[0].x, .int .i64 xs[0].y] 37)) (w1.heap.size + 1) 37 #[.int .i64 xs[0].x, .int .i64 xs[0].y, .int .i64 xs[0].x, .int .i64 xs[0].y] := Bk.new1 _ _ _ _
  have hbk1 : Bk ((w1.alloc (.cells #[.int .i64 xs[0].x, .int .i64 xs[0].y, .int .i64 xs[0].t] 72)).alloc (.cells #[.int .i64 xs[0].x, .int .i64 xs[0].y, .int .i64 xs[0].x, .int .i64 xs[0].y] 37)) (w1.heap.size + 1) 37 #[.int .i64 (boxTo xs 0).x1, .int .i64 (boxTo xs 0).y1, .int .i64 (boxTo xs 0).x2, .int .i64 (boxTo xs 0).y2] := by rw [e0.out]; exact hbk0
  have hTG : Below w1.heap.size w1 ((w1.alloc (.cells #[.int .i64 xs[0].x, .int .i64 xs[0].y, .int .i64 xs[0].t] 72)).alloc (.cells #[.int .i64 xs[0].x, .int .i64 xs[0].y, .int .i64 xs[0].x, .int .i64 xs[0].y] 37)) := by go_grown
  go_loopw [21] (fun i wr => ∃ k : Nat, k ≤ n ∧ i = .int .i64 k ∧ Bk wr (w1.heap.size + 1) 37 #[.int .i64 (boxTo xs k).x1, .int .i64 (boxTo xs k).y1, .int .i64 (boxTo xs k).x2, .int .i64 (boxTo xs k).y2] ∧ Below w1.heap.size w1 wr) (fun i _ => n - (intOf i).toNat)
  case atStart => exact ⟨0, by omega, rfl, hbk1, hTG⟩
  case round =>
    obtain ⟨k, hk, rfl, hbk, hB⟩ := hrel
    have hcr : wr.cell? ⟨w.heap.size, 0, none⟩ = some (.slice A n c) := (hB.cell (p := ⟨w.heap.size, 0, none⟩) hws).trans hcs
    have hBs := hB.size
    have hgl := hbk.lt
    have hwr : w.heap.size < wr.heap.size := by omega
    have HAr := Lib.hid ((HA.out.below hT).below hB)
    have hW := Below.next hT hB
    obtain ⟨⟨g0, g1, g2, g3⟩, f0, f1, f2, f3⟩ := bk4 hbk
    by_cases hlt : k < n
    · skip
      have ka : k < xs.length := by have := LA.out; omega
      obtain ⟨b1, o1, rfl, l1, a1, a2, a3⟩ := HAr.out.pt LA.out ka
      have hn2 : Hid (boxTo xs (k + 1) = joinB (boxTo xs k) (ptBx xs[k])) := boxTo_next ka
      go_wp2_with fail
      refine (joinBoxes_any (boxTo xs k) (ptBx xs[k]) _).mono ?_
      rintro e w4 ⟨rfl, hb4⟩
      have hz4 := hb4.size
      simp only [World.size_alloc] at hz4
      have hbk4 := hbk.below (Below.next (by go_grown) hb4 : Below wr.heap.size wr w4) hgl
      obtain ⟨⟨i0, i1, i2, i3⟩, j0, j1, j2, j3⟩ := bk4 hbk4
      go_wp2_with fail
      go_roundw
      case rel =>
        refine ⟨k + 1, by omega, by go_num, ?_, ?_⟩
        · rw [hn2.out]; exact bk4_put hbk4
        · have := hB.trans (Below.mono (Below.next (by go_grown) hb4 : Below wr.heap.size wr w4) hBs)
          go_grown
      case measure => simp [intOf]; omega
    · obtain rfl : k = n := by omega
      have hor : Bk wr (w.heap.size + 1) 37 #[.int .i64 0, .int .i64 0, .int .i64 0, .int .i64 0] := ho.below hB hws1
      obtain ⟨⟨m0, m1, m2, m3⟩, l0, l1, l2, l3⟩ := bk4 hor
      have hwr1 : w.heap.size + 1 < wr.heap.size := by omega
      go_wp2_with fail
      refine bodyPost_ret (by simp [results, Try.results84, go_sem, *]; try rfl) rfl ?_
      exact ⟨rfl, by go_grown⟩

set_option maxHeartbeats 4000000 in
theorem l02BoxOf_at (b o : Nat) (A : Option Addr) (n c : Nat) (xs : List Pt) (w : World) (hcs0 : w.cell? ⟨b, o, none⟩ = some (.slice A n c)) (ha : Rd w A n 3 (rowOf ptC xs)) (la : xs.length = n) (h0 : 0 < xs.length) (hn : n ≤ 1048576) :
    Calls Try.prog 82 #[.pointer (some ⟨b, o, none⟩)] w fun e w' => e = .returned (.agg #[.int .i64 (boxTo xs n).x1, .int .i64 (boxTo xs n).y1, .int .i64 (boxTo xs n).x2, .int .i64 (boxTo xs n).y2]) ∧ Below w.heap.size w w' := by
  obtain ⟨b1, o1, rfl, l1, c1, c2, c3⟩ := ha.pt la h0
  simp only [Nat.zero_mul, Nat.add_zero] at c1 c2 c3
  have hn0 : 0 < n := by omega
  have hb0 : b < w.heap.size := block_lt_of_cell hcs0
  have HA := Lib.hid ha
  have LA := Lib.hid la
  have e0 : Hid (boxTo xs 0 = ptBx xs[0]) := by rw [Hid, boxTo, getD_at h0]; try rfl
  have e1 : Hid (boxTo xs 1 = ptBx xs[0]) := by rw [Hid, boxTo_one, e0.out]
  clear ha la
  go_enter Try.func82, Try.ntmps82
  go_wp2_with fail
  clear c1 c2 c3
  have hbo1 : Bk (((w.alloc (.cells #[.int .i64 0, .int .i64 0, .int .i64 0, .int .i64 0] 37)).alloc (.cells #[.int .i64 xs[0].x, .int .i64 xs[0].y, .int .i64 xs[0].t] 72)).alloc (.cells #[.int .i64 xs[0].x, .int .i64 xs[0].y, .int .i64 xs[0].x, .int .i64 xs[0].y] 37)) w.heap.size 37 #[.int .i64 0, .int .i64 0, .int .i64 0, .int .i64 0] :=
    (Bk.new w #[.int .i64 0, .int .i64 0, .int .i64 0, .int .i64 0] 37).below (((Below.refl _ _).alloc (Nat.le_refl _) _).alloc (by simp) _) (by simp)
  have hbk1 : Bk (((w.alloc (.cells #[.int .i64 0, .int .i64 0, .int .i64 0, .int .i64 0] 37)).alloc (.cells #[.int .i64 xs[0].x, .int .i64 xs[0].y, .int .i64 xs[0].t] 72)).alloc (.cells #[.int .i64 xs[0].x, .int .i64 xs[0].y, .int .i64 xs[0].x, .int .i64 xs[0].y] 37)) (w.heap.size + 1 + 1) 37 #[.int .i64 (boxTo xs 1).x1, .int .i64 (boxTo xs 1).y1, .int .i64 (boxTo xs 1).x2, .int .i64 (boxTo xs 1).y2] := by rw [e1.out]; exact Bk.new2 _ _ _ _ _
  have hTG : Below w.heap.size w (((w.alloc (.cells #[.int .i64 0, .int .i64 0, .int .i64 0, .int .i64 0] 37)).alloc (.cells #[.int .i64 xs[0].x, .int .i64 xs[0].y, .int .i64 xs[0].t] 72)).alloc (.cells #[.int .i64 xs[0].x, .int .i64 xs[0].y, .int .i64 xs[0].x, .int .i64 xs[0].y] 37)) := by go_grown
  go_loopw [5] (fun i wr => ∃ k : Nat, 1 ≤ k ∧ k ≤ n ∧ i = .int .i64 k ∧ Bk wr (w.heap.size + 1 + 1) 37 #[.int .i64 (boxTo xs k).x1, .int .i64 (boxTo xs k).y1, .int .i64 (boxTo xs k).x2, .int .i64 (boxTo xs k).y2] ∧ Bk wr w.heap.size 37 #[.int .i64 0, .int .i64 0, .int .i64 0, .int .i64 0] ∧ Below w.heap.size w wr) (fun i _ => n - (intOf i).toNat)
  case atStart => exact ⟨1, by omega, by omega, rfl, hbk1, hbo1, hTG⟩
  case round =>
    obtain ⟨k, hk1, hk, rfl, hbk, hbo, hB⟩ := hrel
    have hcr : wr.cell? ⟨b, o, none⟩ = some (.slice (some ⟨b1, o1, none⟩) n c) := (hB.cell (p := ⟨b, o, none⟩) hb0).trans hcs0
    have hBs := hB.size
    have hgl := hbk.lt
    have hwr : b < wr.heap.size := by omega
    have HAr := Lib.hid (HA.out.below hB)
    obtain ⟨⟨g0, g1, g2, g3⟩, f0, f1, f2, f3⟩ := bk4 hbk
    by_cases hlt : k < n
    · skip
      have ka : k < xs.length := by have := LA.out; omega
      obtain ⟨_, _, e0, _, a1, a2, a3⟩ := HAr.out.pt LA.out ka
      cases e0
      have hn2 : Hid (boxTo xs (k + 1) = joinB (boxTo xs k) (ptBx xs[k])) := boxTo_next ka
      go_wp2_with fail
      refine (l02Join_any (boxTo xs k) (ptBx xs[k]) _).mono ?_
      rintro e w4 ⟨rfl, hb4⟩
      have hz4 := hb4.size
      simp only [World.size_alloc] at hz4
      have hB4 : Below wr.heap.size wr w4 := Below.next (by go_grown) hb4
      have hbk4 := hbk.below hB4 hgl
      have hbo4 := hbo.below hB4 hbo.lt
      have hB5 := hB.trans (hB4.mono hBs)
      obtain ⟨⟨i0, i1, i2, i3⟩, j0, j1, j2, j3⟩ := bk4 hbk4
      go_wp2_with fail
      go_roundw
      case rel =>
        refine ⟨k + 1, by omega, by omega, by go_num, ?_, ?_, ?_⟩
        · rw [hn2.out]; exact bk4_put hbk4
        · exact (((hbo4.other (by simp only [ne_eq]; omega) _).other (by simp only [ne_eq]; omega) _).other (by simp only [ne_eq]; omega) _).other (by simp only [ne_eq]; omega) _
        · go_grown
      case measure => simp [intOf]; omega
    · obtain rfl : k = n := by omega
      obtain ⟨⟨m0, m1, m2, m3⟩, l0, l1, l2, l3⟩ := bk4 hbo
      have hwr1 : w.heap.size < wr.heap.size := by omega
      go_wp2_with fail
      refine bodyPost_ret (by simp [results, Try.results82, go_sem, *]; try rfl) rfl ?_
      exact ⟨rfl, by go_grown⟩

theorem l02BoxOf_any (b : Nat) (A : Option Addr) (n c : Nat) (xs : List Pt) (w : World) (hcs0 : w.cell? ⟨b, 0, none⟩ = some (.slice A n c)) (ha : Rd w A n 3 (rowOf ptC xs)) (la : xs.length = n) (h0 : 0 < xs.length) (hn : n ≤ 1048576) :
    Calls Try.prog 82 #[.pointer (some ⟨b, 0, none⟩)] w fun e w' => e = .returned (.agg #[.int .i64 (boxTo xs n).x1, .int .i64 (boxTo xs n).y1, .int .i64 (boxTo xs n).x2, .int .i64 (boxTo xs n).y2]) ∧ Below w.heap.size w w' := l02BoxOf_at b 0 A n c xs w hcs0 ha la h0 hn

end Go.Proofs.Ytnmmnikoogjhoaa
