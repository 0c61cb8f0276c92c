/-
  Lists of spots: what is equal.
-/
import Derived.Test.YtcglcfjonicjgaaMem
import Derived.Laws.StructEq
namespace Go.Proofs.Ytcglcfjonicjgaa
set_option linter.unusedSimpArgs false
set_option linter.unusedVariables false
open Go.RowKit

theorem eq_spot (a b c d : Int) (w : World) : (Op.equalIn 10000 63 (.agg #[.int .i64 a, .int .i64 b]) (.agg #[.int .i64 c, .int .i64 d])).run Try.prog w = .ok (a == c && b == d) w := by
  have u := Try.underlying2
  have hS : Try.prog.underlying 63 = some (.struct (Try.prog.fieldsOf 63)) := by kernel_rfl
  have hp : Try.prog.stoodInHeld 63 = false := by kernel_rfl
  rw [show (10000 : Nat) = 9999 + 1 from rfl, run_equalIn_agg w 9999 _ _ _ hS hp]
  simp only [Program.fieldsOf, Try.underlying63]
  go_simp
  by_cases h1 : a = c <;> by_cases h2 : b = d <;> simp [h1, h2]
theorem guard_spot : Try.prog.eqGuardType Try.prog.depth 63 = false := by kernel_rfl

theorem take_more {α : Type} {xs ys : List α} {k : Nat} (ha : k < xs.length) (hb : k < ys.length) (h : xs.take k = ys.take k) (he : xs[k] = ys[k]) : xs.take (k + 1) = ys.take (k + 1) := by
  rw [List.take_succ_eq_append_getElem ha, List.take_succ_eq_append_getElem hb, h, he]
theorem take_part {α : Type} {xs ys : List α} {k : Nat} (ha : k < xs.length) (hb : k < ys.length) (he : ¬ xs[k] = ys[k]) : ¬ xs = ys := by
  rintro rfl
  exact he rfl
theorem take_all {α : Type} {xs ys : List α} {k : Nat} (ha : xs.length ≤ k) (hb : ys.length ≤ k) (h : xs.take k = ys.take k) : xs = ys := by
  rwa [List.take_of_length_le ha, List.take_of_length_le hb] at h
theorem Sp.same {p q : Sp} (h1 : (p.x == q.x) = true) (h2 : (p.y == q.y) = true) : p = q := by
  cases p; cases q; simp at h1 h2; simp [h1, h2]
theorem Sp.other1 {p q : Sp} (h1 : (p.x == q.x) = false) : ¬ p = q := by rintro rfl; simp at h1
theorem Sp.other2 {p q : Sp} (h1 : (p.y == q.y) = false) : ¬ p = q := by rintro rfl; simp at h1

set_option maxHeartbeats 2000000 in
theorem l06Same_any (A B : Option Addr) (n m c d : Nat) (xs ys : List Sp) (w : World) (ha : Rd w A n 2 (rowOf spC xs)) (hb : Rd w B m 2 (rowOf spC ys)) (la : xs.length = n) (lb : ys.length = m) (hn : n ≤ 1048576) (hm : m ≤ 1048576) :
    Calls Try.prog 52 #[.slice A n c, .slice B m d] w fun e w' => e = .returned (.bool (decide (xs = ys))) ∧ Below w.heap.size w w' := by
  have HA := Lib.hid ha
  have HB := Lib.hid hb
  have LA := Lib.hid la
  have LB := Lib.hid lb
  clear ha hb la lb
  have heq := eq_spot
  have hgd := guard_spot
  by_cases hl : n = m
  · subst hl
    go_enter Try.func52, Try.ntmps52
    go_wp2_with fail
    go_loopw [5] (fun i wr => ∃ k : Nat, k ≤ n ∧ i = .int .i64 k ∧ Hid (xs.take k = ys.take k) ∧ Below w.heap.size w wr) (fun i _ => n - (intOf i).toNat)
    case atStart => exact ⟨0, Nat.zero_le _, rfl, rfl, Below.refl _ _⟩
    case round =>
      obtain ⟨k, hk, rfl, hsame, hW⟩ := hrel
      by_cases hlt : k < n
      · have ka : k < xs.length := by have := LA.out; omega
        have kb : k < ys.length := by have := LB.out; omega
        obtain ⟨b1, o1, rfl, _, c1, c2⟩ := (HA.out.below hW).spot LA.out ka
        obtain ⟨b2, o2, rfl, _, c3, c4⟩ := (HB.out.below hW).spot LB.out kb
        cases e1 : (xs[k].x == ys[k].x)
        · have hne : Hid (¬ xs = ys) := take_part ka kb (Sp.other1 e1)
          go_wp2_with fail
          go_quiet (fail)
          go_wp2_with fail
          go_ret
          exact ⟨ret_bool (decide_eq_false hne.out).symm, below_drewN hW _⟩
        · cases e2 : (xs[k].y == ys[k].y)
          · have hne : Hid (¬ xs = ys) := take_part ka kb (Sp.other2 e2)
            go_wp2_with fail
            go_quiet (fail)
            go_wp2_with fail
            go_ret
            exact ⟨ret_bool (decide_eq_false hne.out).symm, below_drewN hW _⟩
          · have heq2 : Hid (xs.take (k + 1) = ys.take (k + 1)) := take_more ka kb hsame.out (Sp.same e1 e2)
            go_wp2_with fail
            go_quiet (fail)
            go_wp2_with fail
            go_roundw
            case rel => exact ⟨k + 1, by omega, by go_num, heq2, below_drewN hW _⟩
            case measure => simp [intOf]; omega
      · have hq : Hid (xs = ys) := take_all (k := k) (by have := LA.out; omega) (by have := LB.out; omega) hsame.out
        go_wp2_with fail
        go_ret
        exact ⟨ret_bool (decide_eq_true hq.out).symm, hW⟩
  · have hne : Hid (¬ xs = ys) := by
      rintro rfl
      exact hl (LA.out.symm.trans LB.out)
    have hlb : decide (n = m) = false := decide_eq_false hl
    go_enter Try.func52, Try.ntmps52
    go_wp2_with fail
    go_ret
    exact ⟨ret_bool (decide_eq_false hne.out).symm, Below.refl _ _⟩

set_option maxHeartbeats 2000000 in
theorem equalSpots_any (A B : Option Addr) (n m c d : Nat) (xs ys : List Sp) (w : World) (ha : Rd w A n 2 (rowOf spC xs)) (hb : Rd w B m 2 (rowOf spC ys)) (la : xs.length = n) (lb : ys.length = m) (hn : n ≤ 1048576) (hm : m ≤ 1048576) :
    Calls Try.prog 54 #[.slice A n c, .slice B m d] w fun e w' => e = .returned (.bool (decide (xs = ys))) ∧ Below w.heap.size w w' := by
  have HA := Lib.hid ha
  have HB := Lib.hid hb
  have LA := Lib.hid la
  have LB := Lib.hid lb
  clear ha hb la lb
  have heq := eq_spot
  have hgd := guard_spot
  by_cases hl : n = m
  · subst hl
    go_enter Try.func54, Try.ntmps54
    go_wp2_with fail
    go_loopw [5, 13] (fun _ i wr => ∃ k : Nat, k ≤ n ∧ i = .int .i64 k ∧ Hid (xs.take k = ys.take k) ∧ Below w.heap.size w wr) (fun _ i _ => n - (intOf i).toNat)
    case atStart => exact ⟨0, Nat.zero_le _, rfl, rfl, Below.refl _ _⟩
    case round =>
      obtain ⟨k, hk, rfl, hsame, hW⟩ := hrel
      by_cases hlt : k < n
      · have ka : k < xs.length := by have := LA.out; omega
        have kb : k < ys.length := by have := LB.out; omega
        obtain ⟨b1, o1, rfl, _, c1, c2⟩ := (HA.out.below hW).spot LA.out ka
        obtain ⟨b2, o2, rfl, _, c3, c4⟩ := (HB.out.below hW).spot LB.out kb
        cases e1 : (xs[k].x == ys[k].x)
        · have hne : Hid (¬ xs = ys) := take_part ka kb (Sp.other1 e1)
          go_wp2_with fail
          go_quiet (fail)
          go_wp2_with fail
          go_ret
          exact ⟨ret_bool (decide_eq_false hne.out).symm, below_drewN hW _⟩
        · cases e2 : (xs[k].y == ys[k].y)
          · have hne : Hid (¬ xs = ys) := take_part ka kb (Sp.other2 e2)
            go_wp2_with fail
            go_quiet (fail)
            go_wp2_with fail
            go_ret
            exact ⟨ret_bool (decide_eq_false hne.out).symm, below_drewN hW _⟩
          · have heq2 : Hid (xs.take (k + 1) = ys.take (k + 1)) := take_more ka kb hsame.out (Sp.same e1 e2)
            go_wp2_with fail
            go_quiet (fail)
            go_wp2_with fail
            go_roundw
            case rel => exact ⟨k + 1, by omega, by go_num, heq2, below_drewN hW _⟩
            case measure => simp [intOf]; omega
      · have hq : Hid (xs = ys) := take_all (k := k) (by have := LA.out; omega) (by have := LB.out; omega) hsame.out
        go_wp2_with fail
        go_ret
        exact ⟨ret_bool (decide_eq_true hq.out).symm, hW⟩
  · have hne : Hid (¬ xs = ys) := by
      rintro rfl
      exact hl (LA.out.symm.trans LB.out)
    have hlb : decide (n = m) = false := decide_eq_false hl
    go_enter Try.func54, Try.ntmps54
    go_wp2_with fail
    go_ret
    exact ⟨ret_bool (decide_eq_false hne.out).symm, Below.refl _ _⟩

end Go.Proofs.Ytcglcfjonicjgaa
