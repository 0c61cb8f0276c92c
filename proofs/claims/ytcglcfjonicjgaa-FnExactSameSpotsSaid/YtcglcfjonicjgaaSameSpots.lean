/-
  The law of SameSpots returns true: program and reference answer alike, arguments stay.
-/
import Derived.Test.YtcglcfjonicjgaaSpotsTo
import Derived.Test.YtcglcfjonicjgaaSpots
import Derived.Test.YtcglcfjonicjgaaOpen
namespace Go.Proofs.Ytcglcfjonicjgaa
set_option linter.unusedSimpArgs false
set_option linter.unusedVariables false
open Go.RowKit
open Go.ChangeShapes Go.WideShapes Go.Deep Go.Joins

instance : Inhabited Sp := ⟨⟨0, 0⟩⟩
theorem open_spots_arg {H : Type} {enc : TypeId × Value → H} {W : World} {base : Nat} {v : Value} {d : DataW H} {p : List MemPlace}
    (hv : Value.okWide Try.prog W .any base 22 v) (h : DataW.Trod enc Try.prog W 0 (fun _ => true) true 22 v d p) :
    ∃ q : Option Addr × Nat × List Sp, v = .slice q.1 q.2.2.length q.2.1 ∧ q.2.2.length ≤ q.2.1 ∧ q.2.1 ≤ 9223372036854775807 ∧ Rd W q.1 q.2.2.length 2 (rowOf spC q.2.2) := by
  obtain ⟨a, n, c, rfl⟩ := okWide_slice Try.underlying22 hv
  obtain ⟨fuel, h⟩ := h
  obtain ⟨A, c', l, e, h1, h2, h3, _⟩ := open_list (α := Sp) (f := spC) (size := 2) (fun _ => True) (by omega) Try.underlying22 (by kernel_rfl) spC_len (fun cs' n y hl ht => by
    obtain ⟨xs, k, _, _, _, hxl, hf⟩ := DataW.trod_struct Try.underlying65 ht
    match cs', hl, xs, hxl with
    | [v0, v1], _, [y0, y1], _ =>
      have g0 := hf 0 _ rfl
      have g1 := hf 1 _ rfl
      have c1 : Try.prog.cellsOf 2 = 1 := by kernel_rfl
      simp [c1] at g0 g1
      obtain ⟨a, ha, _, wa⟩ := DataW.trod_int Try.underlying2 g0
      obtain ⟨b, hb, _, wb⟩ := DataW.trod_int Try.underlying2 g1
      simp at ha hb
      subst ha hb
      exact ⟨⟨a, b⟩, rfl, trivial⟩) h
  simp only [Value.cells, List.cons.injEq, Value.slice.injEq, and_true] at e
  obtain ⟨rfl, rfl, rfl⟩ := e
  exact ⟨(a, c, l), rfl, h1, h2, h3⟩


theorem sp_eta {p q : Sp} : ((p.x == q.x) && (p.y == q.y)) = decide (p = q) := by
  cases p; cases q; simp [Sp.mk.injEq, Bool.decide_and]
  rfl

theorem eqSpot_any (p q : Sp) (w : World) :
    Calls Try.prog 55 #[.agg #[.int .i64 p.x, .int .i64 p.y], .agg #[.int .i64 q.x, .int .i64 q.y]] w fun e w' => e = .returned (.bool (decide (p = q))) ∧ Below w.heap.size w w' := by
  cases h1 : (p.x == q.x) <;> cases h2 : (p.y == q.y)
  all_goals
    go_enter Try.func55, Try.ntmps55
    go_wp2_with fail
    go_ret
    exact ⟨ret_bool (by rw [← sp_eta, h1, h2]; rfl), by go_grown⟩

theorem eqSpot_is {p q : Sp} {v : Bool} (h : Hid (decide (p = q) = v)) (w : World) :
    Calls Try.prog 55 #[.agg #[.int .i64 p.x, .int .i64 p.y], .agg #[.int .i64 q.x, .int .i64 q.y]] w fun e w' => e = .returned (.bool v) ∧ Below w.heap.size w w' := by
  rw [← h.out]
  exact eqSpot_any p q w

set_option maxHeartbeats 2000000 in
theorem eqSpotS_any (A B : Option Addr) (n m c d : Nat) (xs ys : List Sp) (w : World) (ha : Rd w A n 2 (rowOf spC xs)) (hb : Rd w B m 2 (rowOf spC ys)) (la : xs.length = n) (lb : ys.length = m) (hn : n ≤ 1048576) (hm : m ≤ 1048576) :
    Calls Try.prog 19 #[.slice A n c, .slice B m d] w fun e w' => e = .returned (.bool (decide (xs = ys))) ∧ Below w.heap.size w w' := by
  have HA := Lib.hid ha
  have HB := Lib.hid hb
  have LA := Lib.hid la
  have LB := Lib.hid lb
  clear ha hb la lb
  by_cases hl : n = m
  · subst hl
    go_enter Try.func19, Try.ntmps19
    go_wp2_with fail
    go_loopw [5] (fun i wr => ∃ k : Nat, k ≤ n ∧ i = .int .i64 k ∧ Hid (xs.take k = ys.take k) ∧ Below w.heap.size w wr) (fun i _ => n - (intOf i).toNat)
    case atStart => exact ⟨0, Nat.zero_le _, rfl, rfl, Below.refl _ _⟩
    case round =>
      obtain ⟨k, hk, rfl, hsame, hW⟩ := hrel
      by_cases hlt : k < n
      · have ka : k < xs.length := by have := LA.out; omega
        have kb : k < ys.length := by have := LB.out; omega
        obtain ⟨b1, o1, rfl, l1, c1, c2⟩ := (HA.out.below hW).spot LA.out ka
        obtain ⟨b2, o2, rfl, l2, c3, c4⟩ := (HB.out.below hW).spot LB.out kb
        by_cases he : xs[k] = ys[k]
        · have heq2 : Hid (xs.take (k + 1) = ys.take (k + 1)) := take_more ka kb hsame.out he
          have HD : Hid (decide (xs[k] = ys[k]) = true) := decide_eq_true he
          clear he
          go_wp2_with fail
          go_region_held3 (fun w' => (∀ kb ko, kb < wr.heap.size → w'.cell? ⟨kb, ko, none⟩ = wr.cell? ⟨kb, ko, none⟩) ∧ wr.heap.size ≤ w'.heap.size ∧ Below wr.heap.size wr w') (first | exact SB.mk hkB | exact SB.mk ((Below.refl _ _).drew) | (go_split_ands; refine SB.mk (Below.drew ?_); assumption) | (refine SB.mk ?_; go_grown; done) | (go_split_ands; refine SB.mk ?_; go_grown; done)) ((go_at_call 55; (with_reducible refine (eqSpot_is HD _).mono ?_); rintro e w' ⟨rfl, hb⟩; obtain ⟨_, hks, hkB⟩ := SB.next (by assumption) hb; obtain ⟨hkc, hkf⟩ := bcell hb; have hkz := hb.size; (try simp only [World.size_alloc, World.size_drew] at hkz); (first | (have hkt := Nat.lt_of_succ_le hkz) | (have hkt := Nat.lt_of_lt_of_le (by assumption) hkz) | skip); clear hb))
          go_split_ands
          go_wp2_with fail
          go_roundw
          case rel => exact ⟨k + 1, by omega, by go_num, heq2, Below.next hW (by assumption)⟩
          case measure => simp [intOf]; omega
        · have hne : Hid (¬ xs = ys) := take_part ka kb he
          have HD : Hid (decide (xs[k] = ys[k]) = false) := decide_eq_false he
          clear he
          go_wp2_with fail
          go_region_held3 (fun w' => (∀ kb ko, kb < wr.heap.size → w'.cell? ⟨kb, ko, none⟩ = wr.cell? ⟨kb, ko, none⟩) ∧ wr.heap.size ≤ w'.heap.size ∧ Below wr.heap.size wr w') (first | exact SB.mk hkB | exact SB.mk ((Below.refl _ _).drew) | (go_split_ands; refine SB.mk (Below.drew ?_); assumption) | (refine SB.mk ?_; go_grown; done) | (go_split_ands; refine SB.mk ?_; go_grown; done)) ((go_at_call 55; (with_reducible refine (eqSpot_is HD _).mono ?_); rintro e w' ⟨rfl, hb⟩; obtain ⟨_, hks, hkB⟩ := SB.next (by assumption) hb; obtain ⟨hkc, hkf⟩ := bcell hb; have hkz := hb.size; (try simp only [World.size_alloc, World.size_drew] at hkz); (first | (have hkt := Nat.lt_of_succ_le hkz) | (have hkt := Nat.lt_of_lt_of_le (by assumption) hkz) | skip); clear hb))
          go_split_ands
          go_wp2_with fail
          go_ret
          exact ⟨ret_bool (decide_eq_false hne.out).symm, Below.next hW (by assumption)⟩
      · have hq : Hid (xs = ys) := take_all (k := k) (by have := LA.out; omega) (by have := LB.out; omega) hsame.out
        go_wp2_with fail
        go_ret
        exact ⟨ret_bool (decide_eq_true hq.out).symm, hW⟩
  · have hne : Hid (¬ xs = ys) := by
      rintro rfl
      exact hl (LA.out.symm.trans LB.out)
    have hlb : decide (n = m) = false := decide_eq_false hl
    go_enter Try.func19, Try.ntmps19
    go_wp2_with fail
    go_ret
    exact ⟨ret_bool (decide_eq_false hne.out).symm, Below.refl _ _⟩


theorem szSpotS_any (A : Option Addr) (n c : Nat) (left : Nat) (w : World) (hn : n ≤ 9223372036854775807) (hl : left ≤ 1048576) :
    Calls Try.prog 15 #[.slice A n c, .int .i64 (left : Int)] w fun e w' => e = .returned (.int .i64 (if n ≤ left then ((left - n : Nat) : Int) else -1)) ∧ w = w' := by
  by_cases h : n ≤ left
  · go_enter Try.func15, Try.ntmps15
    go_wp2_with fail
    go_ret
    exact ⟨ret_int (by omega), rfl⟩
  · go_enter Try.func15, Try.ntmps15
    go_wp2_with fail
    go_ret
    exact ⟨rfl, rfl⟩
end Go.Proofs.Ytcglcfjonicjgaa
