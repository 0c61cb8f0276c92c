/-
  A valid box: program and reference ask the same.
-/
import Derived.Test.YtgipnjjlpdcfoaaSmall
namespace Go.Proofs.Ytgipnjjlpdcfoaa
open Go.RowKit

def boxB (a b c d : Int) : Bool := inB a 0 c && inB b 0 d && decide (c ≤ 4095) && decide (d ≤ 4095)

set_option maxHeartbeats 1000000 in
theorem iValidBox (a b c d : Int) (w : World) :
    Calls Try.prog 15 #[.agg #[.int .i64 a, .int .i64 b, .int .i64 c, .int .i64 d]] w fun e w' => e = .returned (.bool (boxB a b c d)) ∧ Below w.heap.size w w' := by
  cases h1 : inB a 0 c <;> cases h2 : inB b 0 d <;> by_cases h3 : c ≤ 4095 <;> by_cases h4 : d ≤ 4095
  all_goals
    go_enter Try.func15, Try.ntmps15
    go_wp2_with (go_at_call 23; refine (within_any _ _ _ _).mono ?_; rintro e w' ⟨rfl, rfl⟩)
    go_ret
    exact ⟨ret_bool (by simp [boxB, h1, h2, h3, h4]), by go_grown⟩

set_option maxHeartbeats 1000000 in
theorem l02Box_any (a b c d : Int) (w : World) :
    Calls Try.prog 22 #[.agg #[.int .i64 a, .int .i64 b, .int .i64 c, .int .i64 d]] w fun e w' => e = .returned (.bool (boxB a b c d)) ∧ Below w.heap.size w w' := by
  cases h1 : inB a 0 c <;> cases h2 : inB b 0 d <;> by_cases h3 : c ≤ 4095 <;> by_cases h4 : d ≤ 4095
  all_goals
    go_enter Try.func22, Try.ntmps22
    go_wp2_with (go_at_call 21; refine (l00In_any _ _ _ _).mono ?_; rintro e w' ⟨rfl, rfl⟩)
    go_ret
    exact ⟨ret_bool (by simp [boxB, h1, h2, h3, h4]), by go_grown⟩

theorem sValidBox (a b c d : Int) (w : World) :
    Calls Try.prog 13 #[.agg #[.int .i64 a, .int .i64 b, .int .i64 c, .int .i64 d]] w fun e w' => e = .returned (.bool (boxB a b c d)) ∧ Below w.heap.size w w' := by
  go_enter Try.func13, Try.ntmps13
  go_wp2_with (go_at_call 22; refine (l02Box_any a b c d _).mono ?_; rintro e w2 ⟨rfl, hb2⟩)
  go_ret
  exact ⟨rfl, ((Below.refl _ _).alloc (Nat.le_refl _) _).trans (hb2.mono (by simp))⟩

theorem toBox_any (a b c d : Int) (w : World) :
    Calls Try.prog 14 #[.agg #[.int .i64 a, .int .i64 b, .int .i64 c, .int .i64 d]] w fun e w' => e = .returned (.agg #[.int .i64 a, .int .i64 b, .int .i64 c, .int .i64 d]) ∧ Below w.heap.size w w' := by
  go_enter Try.func14, Try.ntmps14
  go_wp2
  go_returns
  exact ⟨rfl, by go_grown⟩

theorem open_box {H : Type} {enc : TypeId × Value → H} {W : World} {base : Nat} {v : Value} {d : DataW H} {p : List MemPlace}
    (hv : Value.okWide Try.prog W .any base 28 v) (h : DataW.Trod enc Try.prog W 0 (fun _ => true) true 28 v d p) :
    ∃ a b c e : Int, v = .agg #[.int .i64 a, .int .i64 b, .int .i64 c, .int .i64 e] ∧ True := by
  obtain ⟨v0, v1, v2, v3, y0, y1, y2, y3, n, rfl, rfl, rfl, g0, g1, g2, g3⟩ := Joins.open_agg4 Try.underlying28 (by kernel_rfl) (by kernel_rfl) hv h
  obtain ⟨a, ha, _, _⟩ := DataW.trod_int Try.underlying2 g0
  obtain ⟨b, hb, _, _⟩ := DataW.trod_int Try.underlying2 g1
  obtain ⟨c, hc, _, _⟩ := DataW.trod_int Try.underlying2 g2
  obtain ⟨e, he, _, _⟩ := DataW.trod_int Try.underlying2 g3
  simp at ha hb hc he
  subst ha hb hc he
  exact ⟨a, b, c, e, rfl, trivial⟩
end Go.Proofs.Ytgipnjjlpdcfoaa
