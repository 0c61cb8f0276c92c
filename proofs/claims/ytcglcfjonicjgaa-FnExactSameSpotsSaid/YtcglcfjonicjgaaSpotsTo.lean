/-
  Lists of spots of the law become lists of spots of the program.
-/
import Derived.Test.YtcglcfjonicjgaaSpots
namespace Go.Proofs.Ytcglcfjonicjgaa
set_option linter.unusedSimpArgs false
set_option linter.unusedVariables false
open Go.RowKit

theorem spot_info : (Try.prog.info? 63).map (fun i => (i.zero, i.size, i.bytes)) = some (some (.agg #[.int .i64 0, .int .i64 0]), 2, 16) := by kernel_rfl

theorem toSpot_any (p : Sp) (w : World) :
    Calls Try.prog 53 #[.agg #[.int .i64 p.x, .int .i64 p.y]] w fun e w' => e = .returned (.agg #[.int .i64 p.x, .int .i64 p.y]) ∧ Below w.heap.size w w' := by
  go_enter Try.func53, Try.ntmps53
  go_wp2
  go_returns
  exact ⟨rfl, by go_grown⟩

set_option maxHeartbeats 2000000 in
theorem toSpotS_any (A : Option Addr) (n c : Nat) (xs : List Sp) (w : World) (ha : Rd w A n 2 (rowOf spC xs)) (la : xs.length = n) (hn : n ≤ 1048576) :
    Calls Try.prog 17 #[.slice A n c] w fun e w' => ∃ g, e = .returned (.slice (some ⟨g, 0, none⟩) n n) ∧ w.heap.size ≤ g ∧ Bk w' g 63 (rowOf spC xs).toArray ∧ Below w.heap.size w w' := by
  obtain ⟨i0, hi0, hz0, hz1, hz2⟩ := info_parts spot_info
  have hmk := make_rows (P := Try.prog) 25 63 i0 _ Try.underlying25 hi0 hz0 .i64 .i64 n (by rw [hz2]; omega) (by omega)
  rw [hz1] at hmk
  have HA := Lib.hid ha
  have LA := Lib.hid la
  clear ha la
  go_enter Try.func17, Try.ntmps17
  go_wp2_with fail
  go_loopw [4] (fun i wr => ∃ (k : Nat) (C : Array Value), k ≤ n ∧ i = .int .i64 k ∧ Hid (C.size = n * 2) ∧ Hid (Filled spC C xs k) ∧ Bk wr w.heap.size 63 C ∧ Below w.heap.size w wr) (fun i _ => n - (intOf i).toNat)
  case atStart => exact ⟨0, _, Nat.zero_le _, rfl, size_madeCells _ _, Filled.zero _ _ _, heap_alloc_new w _, by go_grown⟩
  case round =>
    obtain ⟨k, C, hk, rfl, hC, hfill, hbk, hW⟩ := hrel
    by_cases hlt : k < n
    · have ka : k < xs.length := by have := LA.out; omega
      obtain ⟨b1, o1, rfl, _, c1, c2⟩ := (HA.out.below hW).spot LA.out ka
      go_wp2_with fail
      refine (toSpot_any xs[k] _).mono ?_
      rintro e w2 ⟨rfl, hb2⟩
      have hbk2 := hbk.below hb2 hbk.lt
      have d1 := hbk2.cell (k * 2)
      have d2 := hbk2.cell (k * 2 + 1)
      rw [Array.getElem?_eq_getElem (by have := hC.out; omega)] at d1 d2
      have f1 := hbk2.frozen (k * 2)
      have f2 := hbk2.frozen (k * 2 + 1)
      go_wp2_with fail
      go_roundw
      case rel => exact ⟨k + 1, _, by omega, by go_num, by simpa [Hid] using hC.out, hfill.out.put2 spC_len ka (by rw [LA.out]; exact hC.out) rfl, (hbk2.put _ _).put _ _, by have := hW.trans (hb2.mono (Nat.le_of_lt hbk.lt)); go_grown⟩
      case measure => simp [intOf]; omega
    · have e : C = (rowOf spC xs).toArray := hfill.out.done spC_len (by rw [LA.out]; omega) (by rw [LA.out]; exact hC.out)
      subst e
      go_wp2_with fail
      go_ret
      exact ⟨_, rfl, Nat.le_refl _, hbk, hW⟩
end Go.Proofs.Ytcglcfjonicjgaa
