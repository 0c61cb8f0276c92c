/-
  Lists of points: what is equal.
-/
import Derived.Test.YtnmmnikoogjhoaaPts
import Derived.Test.YtnmmnikoogjhoaaValid
import Derived.Laws.StructEq
namespace Go.Proofs.Ytnmmnikoogjhoaa
set_option linter.unusedSimpArgs false
set_option linter.unusedVariables false
set_option maxRecDepth 20000
open Go.RowKit

theorem eq_ptv (a b c d e f : Int) (w : World) : (Op.equalIn 10000 72 (.agg #[.int .i64 a, .int .i64 b, .int .i64 c]) (.agg #[.int .i64 d, .int .i64 e, .int .i64 f])).run Try.prog w = .ok (a == d && (b == e && c == f)) w := by
  have u := Try.underlying2
  have hS : Try.prog.underlying 72 = some (.struct (Try.prog.fieldsOf 72)) := by kernel_rfl
  have hp : Try.prog.stoodInHeld 72 = false := by kernel_rfl
  rw [show (10000 : Nat) = 9999 + 1 from rfl, run_equalIn_agg w 9999 _ _ _ hS hp]
  simp only [Program.fieldsOf, Try.underlying72]
  go_simp
  by_cases h1 : a = d <;> by_cases h2 : b = e <;> by_cases h3 : c = f <;> simp [h1, h2, h3]
theorem guard_ptv : Try.prog.eqGuardType Try.prog.depth 72 = false := by kernel_rfl

theorem take_moreP {α : Type} {xs ys : List α} {k : Nat} (ha : k < xs.length) (hb : k < ys.length) (h : xs.take k = ys.take k) (he : xs[k] = ys[k]) : xs.take (k + 1) = ys.take (k + 1) := by
  rw [List.take_succ_eq_append_getElem ha, List.take_succ_eq_append_getElem hb, h, he]
theorem take_partP {α : Type} {xs ys : List α} {k : Nat} (ha : k < xs.length) (hb : k < ys.length) (he : ¬ xs[k] = ys[k]) : ¬ xs = ys := by
  rintro rfl
  exact he rfl
theorem take_allP {α : Type} {xs ys : List α} {k : Nat} (ha : xs.length ≤ k) (hb : ys.length ≤ k) (h : xs.take k = ys.take k) : xs = ys := by
  rwa [List.take_of_length_le ha, List.take_of_length_le hb] at h
theorem Pt.same {p q : Pt} (h1 : (p.x == q.x) = true) (h2 : (p.y == q.y) = true) (h3 : (p.t == q.t) = true) : p = q := by
  cases p; cases q; simp at h1 h2 h3; simp [h1, h2, h3]
theorem Pt.other1 {p q : Pt} (h1 : (p.x == q.x) = false) : ¬ p = q := by rintro rfl; simp at h1
theorem Pt.other2 {p q : Pt} (h1 : (p.y == q.y) = false) : ¬ p = q := by rintro rfl; simp at h1
theorem Pt.other3 {p q : Pt} (h1 : (p.t == q.t) = false) : ¬ p = q := by rintro rfl; simp at h1
open Classical in
noncomputable def samePB (xs ys : List Pt) : Bool := decide (xs = ys)
theorem samePB_yes {xs ys : List Pt} (h : xs = ys) : true = samePB xs ys := by unfold samePB; rw [decide_eq_true h]
theorem samePB_no {xs ys : List Pt} (h : ¬ xs = ys) : false = samePB xs ys := by unfold samePB; rw [decide_eq_false h]

set_option maxHeartbeats 4000000 in
theorem equalPts_any (A B : Option Addr) (n m c d : Nat) (xs ys : List Pt) (w : World) (ha : Rd w A n 3 (rowOf ptC xs)) (hb : Rd w B m 3 (rowOf ptC ys)) (la : xs.length = n) (lb : ys.length = m) (hn : n ≤ 1048576) (hm : m ≤ 1048576) :
    Calls Try.prog 50 #[.slice A n c, .slice B m d] w fun e w' => e = .returned (.bool (samePB xs ys)) ∧ Below w.heap.size w w' := by
  have HA := Lib.hid ha
  have HD := Lib.hid hb
  have LA := Lib.hid la
  have LD := Lib.hid lb
  clear ha hb la lb
  have heq := eq_ptv
  have hgd := guard_ptv
  by_cases hl : n = m
  · subst hl
    go_enter Try.func50, Try.ntmps50
    go_wp2_with fail
    go_loopw [5, 13] (fun _ i wr => ∃ k : Nat, k ≤ n ∧ i = .int .i64 k ∧ Hid (xs.take k = ys.take k) ∧ Below w.heap.size w wr) (fun _ i _ => n - (intOf i).toNat)
    case atStart => exact ⟨0, Nat.zero_le _, rfl, rfl, Below.refl _ _⟩
    case round =>
      obtain ⟨k, hk, rfl, hsame, hW⟩ := hrel
      by_cases hlt : k < n
      · have ka : k < xs.length := by have := LA.out; omega
        have kb : k < ys.length := by have := LD.out; omega
        obtain ⟨b3, o3, rfl, _, c1, c2, c3⟩ := (HA.out.below hW).pt LA.out ka
        obtain ⟨b4, o4, rfl, _, c4, c5, c6⟩ := (HD.out.below hW).pt LD.out kb
        have hk0 : (0 : Int) ≤ (k : Int) := by omega
        have hkn : (k : Int) < (n : Int) := by omega
        cases e1 : (xs[k].x == ys[k].x)
        · skip
          have hne : Hid (¬ xs = ys) := take_partP ka kb (Pt.other1 e1)
          go_wp2_with fail
          go_quiet (fail)
          go_wp2_with fail
          go_ret
          exact ⟨ret_bool (samePB_no hne.out), below_drewN hW _⟩
        · cases e2 : (xs[k].y == ys[k].y)
          · skip
            have hne : Hid (¬ xs = ys) := take_partP ka kb (Pt.other2 e2)
            go_wp2_with fail
            go_quiet (fail)
            go_wp2_with fail
            go_ret
            exact ⟨ret_bool (samePB_no hne.out), below_drewN hW _⟩
          · cases e3 : (xs[k].t == ys[k].t)
            · skip
              have hne : Hid (¬ xs = ys) := take_partP ka kb (Pt.other3 e3)
              go_wp2_with fail
              go_quiet (fail)
              go_wp2_with fail
              go_ret
              exact ⟨ret_bool (samePB_no hne.out), below_drewN hW _⟩
            · have heq2 : Hid (xs.take (k + 1) = ys.take (k + 1)) := take_moreP ka kb hsame.out (Pt.same e1 e2 e3)
              go_wp2_with fail
              go_quiet (fail)
              go_wp2_with fail
              go_roundw
              case rel => exact ⟨k + 1, by omega, by go_num, heq2, below_drewN hW _⟩
              case measure => simp [intOf]; omega
      · have hq : Hid (xs = ys) := take_allP (k := k) (by have := LA.out; omega) (by have := LD.out; omega) hsame.out
        go_wp2_with fail
        go_ret
        exact ⟨ret_bool (samePB_yes hq.out), hW⟩
  · have hne : Hid (¬ xs = ys) := by
      rintro rfl
      exact hl (LA.out.symm.trans LD.out)
    have hlb : decide (n = m) = false := decide_eq_false hl
    go_enter Try.func50, Try.ntmps50
    go_wp2_with fail
    go_ret
    exact ⟨ret_bool (samePB_no hne.out), Below.refl _ _⟩

set_option maxHeartbeats 4000000 in
theorem l02SameStroke_any (b1 o1 b2 o2 : Nat) (A B : Option Addr) (n m c d : Nat) (xs ys : List Pt) (w : World) (hc1 : w.cell? ⟨b1, o1, none⟩ = some (.slice A n c)) (hc2 : w.cell? ⟨b2, o2, none⟩ = some (.slice B m d)) (ha : Rd w A n 3 (rowOf ptC xs)) (hb : Rd w B m 3 (rowOf ptC ys)) (la : xs.length = n) (lb : ys.length = m) (hn : n ≤ 1048576) (hm : m ≤ 1048576) :
    Calls Try.prog 81 #[.pointer (some ⟨b1, o1, none⟩), .pointer (some ⟨b2, o2, none⟩)] w fun e w' => e = .returned (.bool (samePB xs ys)) ∧ Below w.heap.size w w' := by
  have HA := Lib.hid ha
  have HD := Lib.hid hb
  have LA := Lib.hid la
  have LD := Lib.hid lb
  clear ha hb la lb
  have hl1 : b1 < w.heap.size := block_lt_of_cell hc1
  have hl2 : b2 < w.heap.size := block_lt_of_cell hc2
  have heq := eq_ptv
  have hgd := guard_ptv
  by_cases hl : n = m
  · subst hl
    go_enter Try.func81, Try.ntmps81
    go_wp2_with fail
    go_quiet (fail)
    go_wp2_with fail
    go_loopw [5] (fun i wr => ∃ k : Nat, k ≤ n ∧ i = .int .i64 k ∧ Hid (xs.take k = ys.take k) ∧ Below w.heap.size w wr) (fun i _ => n - (intOf i).toNat)
    case atStart => exact ⟨0, Nat.zero_le _, rfl, rfl, below_drewN (Below.refl _ _) _⟩
    case round =>
      obtain ⟨k, hk, rfl, hsame, hW⟩ := hrel
      have hd1 : wr.cell? ⟨b1, o1, none⟩ = some (.slice A n c) := (hW.cell (p := ⟨b1, o1, none⟩) hl1).trans hc1
      have hd2 : wr.cell? ⟨b2, o2, none⟩ = some (.slice B n d) := (hW.cell (p := ⟨b2, o2, none⟩) hl2).trans hc2
      by_cases hlt : k < n
      · have ka : k < xs.length := by have := LA.out; omega
        have kb : k < ys.length := by have := LD.out; omega
        obtain ⟨b3, o3, rfl, _, c1, c2, c3⟩ := (HA.out.below hW).pt LA.out ka
        obtain ⟨b4, o4, rfl, _, c4, c5, c6⟩ := (HD.out.below hW).pt LD.out kb
        have hk0 : (0 : Int) ≤ (k : Int) := by omega
        have hkn : (k : Int) < (n : Int) := by omega
        cases e1 : (xs[k].x == ys[k].x)
        · skip
          have hne : Hid (¬ xs = ys) := take_partP ka kb (Pt.other1 e1)
          go_wp2_with fail
          go_quiet (fail)
          go_wp2_with fail
          go_ret
          exact ⟨ret_bool (samePB_no hne.out), below_drewN hW _⟩
        · cases e2 : (xs[k].y == ys[k].y)
          · skip
            have hne : Hid (¬ xs = ys) := take_partP ka kb (Pt.other2 e2)
            go_wp2_with fail
            go_quiet (fail)
            go_wp2_with fail
            go_ret
            exact ⟨ret_bool (samePB_no hne.out), below_drewN hW _⟩
          · cases e3 : (xs[k].t == ys[k].t)
            · skip
              have hne : Hid (¬ xs = ys) := take_partP ka kb (Pt.other3 e3)
              go_wp2_with fail
              go_quiet (fail)
              go_wp2_with fail
              go_ret
              exact ⟨ret_bool (samePB_no hne.out), below_drewN hW _⟩
            · have heq2 : Hid (xs.take (k + 1) = ys.take (k + 1)) := take_moreP ka kb hsame.out (Pt.same e1 e2 e3)
              go_wp2_with fail
              go_quiet (fail)
              go_wp2_with fail
              go_roundw
              case rel => exact ⟨k + 1, by omega, by go_num, heq2, below_drewN hW _⟩
              case measure => simp [intOf]; omega
      · have hq : Hid (xs = ys) := take_allP (k := k) (by have := LA.out; omega) (by have := LD.out; omega) hsame.out
        go_wp2_with fail
        go_ret
        exact ⟨ret_bool (samePB_yes hq.out), hW⟩
  · have hne : Hid (¬ xs = ys) := by
      rintro rfl
      exact hl (LA.out.symm.trans LD.out)
    have hlb : decide (n = m) = false := decide_eq_false hl
    go_enter Try.func81, Try.ntmps81
    go_wp2_with fail
    go_quiet (fail)
    go_wp2_with fail
    go_ret
    exact ⟨ret_bool (samePB_no hne.out), below_drewN (Below.refl _ _) _⟩
end Go.Proofs.Ytnmmnikoogjhoaa
