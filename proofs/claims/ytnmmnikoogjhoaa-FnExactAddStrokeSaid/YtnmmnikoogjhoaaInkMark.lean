/-
  An ink that holds the numbers in order is held.
-/
import Derived.Test.YtnmmnikoogjhoaaInkArg
namespace Go.Proofs.Ytnmmnikoogjhoaa
set_option linter.unusedSimpArgs false
set_option linter.unusedVariables false
set_option maxRecDepth 20000
open Go.RowKit
open Go.ChangeShapes Go.WideShapes Go.Deep Go.Joins

/-- the strokes of T hold the numbers from k on, as many as S's have points -/
def marked (k : Nat) (T : List St) : Prop := ∀ (j : Nat) (h : j < T.length), T[j].l = marksP (k + 3 * sumL T j) T[j].l.length

set_option maxHeartbeats 4000000 in
theorem heldStrokeS_any (A : Option Addr) (n c k : Nat) (T : List St) (w : World) (h : InkRd w A n T) (hm : marked k T) (hn : n ≤ 1048576) (hsum : sumL T n ≤ 1048576) (hk : k ≤ 2147483648) :
    Calls Try.prog 59 #[.slice A n c, .int .i64 (k : Int)] w fun e w' => e = .returned (.int .i64 ((k + 3 * sumL T n : Nat) : Int)) ∧ w = w' := by
  have HA := Lib.hid h
  have LA := Lib.hid h.len
  have HM := Lib.hid hm
  clear h hm
  go_enter Try.func59, Try.ntmps59
  go_wp2_with fail
  go_loop [1, 5] (fun kk i => ∃ (j q : Nat), j ≤ n ∧ i = .int .i64 (j : Int) ∧ kk = .int .i64 (q : Int) ∧ q ≤ 2147483648 + 3145728 ∧ Hid (k + 3 * sumL T j = q)) (fun _ i => n - (intOf i).toNat)
  case atStart => exact ⟨0, k, by omega, rfl, rfl, by omega, rfl⟩
  case round =>
    obtain ⟨j, q, hj, rfl, rfl, hqb, hq⟩ := hrel
    by_cases hlt : j < n
    · have ka : j < T.length := by have := LA.out; omega
      obtain ⟨b1, o1, rfl, l1, c1, p1⟩ := HA.out.at ka
      have hnx := Lib.hid (sumL_next ka)
      have hmono := sumL_mono T (show j + 1 ≤ n from hlt)
      have hle : T[j].l.length ≤ 1048576 := by have := hnx.out; omega
      have hml := HM.out j ka
      rw [hq.out] at hml
      rw [hml, marksP_len] at p1
      have P1 := Lib.hid p1
      obtain ⟨q2, hq2⟩ : ∃ q2, q + 3 * T[j].l.length = q2 := ⟨_, rfl⟩
      have hq3 : q2 ≤ 2147483648 + 3145728 := by have := hnx.out; have := hq.out; omega
      have hq4 : Hid (k + 3 * sumL T (j + 1) = q2) := by rw [Hid, hnx.out]; have := hq.out; omega
      have HQ := Lib.hid hq2
      clear p1 hml hq2
      go_wp2_with fail
      refine (heldPointS_any T[j].A T[j].l.length T[j].c q _ P1.out hle (by omega)).mono ?_
      rintro e w2 ⟨rfl, rfl⟩
      rw [HQ.out]
      go_wp2_with fail
      go_round
      case rel => exact ⟨j + 1, q2, by omega, by go_num, rfl, hq3, hq4⟩
      case measure => simp [intOf]; omega
    · obtain rfl : j = n := by omega
      go_wp2_with fail
      go_ret
      exact ⟨ret_int (by have := hq.out; omega), rfl⟩

theorem heldInk_any (A : Option Addr) (n c k : Nat) (T : List St) (w : World) (h : InkRd w A n T) (hm : marked k T) (hn : n ≤ 1048576) (hsum : sumL T n ≤ 1048576) (hk : k ≤ 2147483648) :
    Calls Try.prog 26 #[.agg #[.slice A n c], .int .i64 (k : Int)] w fun e w' => e = .returned (.int .i64 ((k + 3 * sumL T n : Nat) : Int)) ∧ Below w.heap.size w w' := by
  have HA := Lib.hid (h.alloc (.cells #[.slice A n c] 29))
  have HM := Lib.hid hm
  clear h hm
  obtain ⟨q, hq⟩ : ∃ q, k + 3 * sumL T n = q := ⟨_, rfl⟩
  rw [hq]
  have HQ := Lib.hid hq
  clear hq
  go_enter Try.func26, Try.ntmps26
  go_wp2_with fail
  refine (heldStrokeS_any A n c k T _ HA.out HM.out hn hsum hk).mono ?_
  rintro e w2 ⟨rfl, rfl⟩
  rw [HQ.out]
  go_wp2_with fail
  go_ret
  exact ⟨rfl, by go_grown⟩
end Go.Proofs.Ytnmmnikoogjhoaa
