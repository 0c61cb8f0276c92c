/-
  Lists of points: the laws' comparison, size, marks.
-/
import Derived.Test.YtnmmnikoogjhoaaPts
namespace Go.Proofs.Ytnmmnikoogjhoaa
set_option linter.unusedSimpArgs false
set_option linter.unusedVariables false
set_option maxRecDepth 20000
open Go.RowKit

theorem eqPoint_same (p : Pt) (w : World) :
    Calls Try.prog 90 #[.agg #[.int .i64 p.x, .int .i64 p.y, .int .i64 p.t], .agg #[.int .i64 p.x, .int .i64 p.y, .int .i64 p.t]] w fun e w' => e = .returned (.bool true) ∧ Below w.heap.size w w' := by
  go_enter Try.func90, Try.ntmps90
  go_wp2
  go_ret
  exact ⟨rfl, by go_grown⟩

set_option maxHeartbeats 2000000 in
theorem eqPointS_same (A B : Option Addr) (n c d : Nat) (xs : List Pt) (w : World) (ha : Rd w A n 3 (rowOf ptC xs)) (hb : Rd w B n 3 (rowOf ptC xs)) (la : xs.length = n) (hn : n ≤ 1048576) :
    Calls Try.prog 69 #[.slice A n c, .slice B n d] w fun e w' => e = .returned (.bool true) ∧ Below w.heap.size w w' := by
  have HA := Lib.hid ha
  have HD := Lib.hid hb
  have LA := Lib.hid la
  clear ha hb la
  go_enter Try.func69, Try.ntmps69
  go_wp2_with fail
  go_loopw [5] (fun i wr => ∃ k : Nat, k ≤ n ∧ i = .int .i64 k ∧ Below w.heap.size w wr) (fun i _ => n - (intOf i).toNat)
  case atStart => exact ⟨0, Nat.zero_le _, rfl, Below.refl _ _⟩
  case round =>
    obtain ⟨k, hk, rfl, hW⟩ := hrel
    by_cases hlt : k < n
    · have ka : k < xs.length := by have := LA.out; omega
      obtain ⟨b1, o1, rfl, l1, c1, c2, c3⟩ := (HA.out.below hW).pt LA.out ka
      obtain ⟨b2, o2, rfl, l2, c4, c5, c6⟩ := (HD.out.below hW).pt LA.out ka
      go_wp2_with fail
      go_region_held3 (fun w' => (∀ kb ko, kb < wr.heap.size → w'.cell? ⟨kb, ko, none⟩ = wr.cell? ⟨kb, ko, none⟩) ∧ wr.heap.size ≤ w'.heap.size ∧ Below wr.heap.size wr w') (first | exact SB.mk hkB | exact SB.mk ((Below.refl _ _).drew) | (go_split_ands; refine SB.mk (Below.drew ?_); assumption) | (refine SB.mk ?_; go_grown; done) | (go_split_ands; refine SB.mk ?_; go_grown; done)) ((go_at_call 90; (with_reducible refine (eqPoint_same _ _).mono ?_); rintro e w' ⟨rfl, hb⟩; obtain ⟨_, hks, hkB⟩ := SB.next (by assumption) hb; obtain ⟨hkc, hkf⟩ := bcell hb; have hkz := hb.size; (try simp only [World.size_alloc, World.size_drew] at hkz); (first | (have hkt := Nat.lt_of_succ_le hkz) | (have hkt := Nat.lt_of_lt_of_le (by assumption) hkz) | skip); clear hb))
      go_split_ands
      go_wp2_with fail
      go_roundw
      case rel => exact ⟨k + 1, by omega, by go_num, Below.next hW (by assumption)⟩
      case measure => simp [intOf]; omega
    · go_wp2_with fail
      go_ret
      exact ⟨rfl, hW⟩

theorem eqStroke_same (A B : Option Addr) (n c d : Nat) (xs : List Pt) (w : World) (ha : Rd w A n 3 (rowOf ptC xs)) (hb : Rd w B n 3 (rowOf ptC xs)) (la : xs.length = n) (hn : n ≤ 1048576) :
    Calls Try.prog 33 #[.agg #[.slice A n c], .agg #[.slice B n d]] w fun e w' => e = .returned (.bool true) ∧ Below w.heap.size w w' := by
  go_enter Try.func33, Try.ntmps33
  go_wp2_with fail
  refine (eqPointS_same A B n c d xs _ (by first | exact ha | exact ha.alloc _ | exact (ha.alloc _).alloc _ | exact ((ha.alloc _).alloc _).alloc _) (by first | exact hb | exact hb.alloc _ | exact (hb.alloc _).alloc _) la hn).mono ?_
  rintro e w2 ⟨rfl, hb2⟩
  go_wp2_with fail
  go_ret
  exact ⟨rfl, Below.next (by go_grown) hb2⟩

theorem szPointS_ok (A : Option Addr) (n c : Nat) (left : Nat) (w : World) (hn : n ≤ 9223372036854775807) (hl : left ≤ 1048576) (h : n ≤ left) :
    Calls Try.prog 63 #[.slice A n c, .int .i64 (left : Int)] w fun e w' => e = .returned (.int .i64 ((left - n : Nat) : Int)) ∧ w = w' := by
  go_enter Try.func63, Try.ntmps63
  go_wp2_with fail
  go_ret
  exact ⟨ret_int (by omega), rfl⟩
theorem szPointS_no (A : Option Addr) (n c : Nat) (left : Nat) (w : World) (hn : n ≤ 9223372036854775807) (hl : left ≤ 1048576) (h : ¬ n ≤ left) :
    Calls Try.prog 63 #[.slice A n c, .int .i64 (left : Int)] w fun e w' => e = .returned (.int .i64 (-1)) ∧ w = w' := by
  go_enter Try.func63, Try.ntmps63
  go_wp2_with fail
  go_ret
  exact ⟨rfl, rfl⟩
theorem szStroke_ok (A : Option Addr) (n c : Nat) (left : Nat) (w : World) (hn : n ≤ 9223372036854775807) (hl : left ≤ 1048576) (h : n ≤ left) :
    Calls Try.prog 29 #[.agg #[.slice A n c], .int .i64 (left : Int)] w fun e w' => e = .returned (.int .i64 ((left - n : Nat) : Int)) ∧ Below w.heap.size w w' := by
  go_enter Try.func29, Try.ntmps29
  go_wp2_with fail
  refine (szPointS_ok A n c left _ hn hl h).mono ?_
  rintro e w' ⟨rfl, rfl⟩
  go_wp2_with fail
  go_ret
  exact ⟨rfl, by go_grown⟩
theorem szStroke_no (A : Option Addr) (n c : Nat) (left : Nat) (w : World) (hn : n ≤ 9223372036854775807) (hl : left ≤ 1048576) (h : ¬ n ≤ left) :
    Calls Try.prog 29 #[.agg #[.slice A n c], .int .i64 (left : Int)] w fun e w' => e = .returned (.int .i64 (-1)) ∧ Below w.heap.size w w' := by
  go_enter Try.func29, Try.ntmps29
  go_wp2_with fail
  refine (szPointS_no A n c left _ hn hl h).mono ?_
  rintro e w' ⟨rfl, rfl⟩
  go_wp2_with fail
  go_ret
  exact ⟨rfl, by go_grown⟩

open Go.ChangeShapes Go.WideShapes Go.Deep Go.Joins
theorem points_of_trod {H : Type} {enc : TypeId × Value → H} {w : World} {fuel : Nat} {cs : List Value} {x : DataW H × List MemPlace}
    (h : DataW.trod enc Try.prog w 0 (fun _ => true) true fuel 45 cs = some x) :
    ∃ (A : Option Addr) (c : Nat) (l : List Pt), cs = [.slice A l.length c] ∧ l.length ≤ c ∧ c ≤ 9223372036854775807 ∧ Rd w A l.length 3 (rowOf ptC l) := by
  obtain ⟨A, c, l, e, h1, h2, h3, _⟩ := open_list (α := Pt) (f := ptC) (size := 3) (fun _ => True) (by omega) Try.underlying45 (by kernel_rfl) ptC_len (fun cs' n y hl ht => by
    obtain ⟨xs, k, _, _, _, hxl, hf⟩ := DataW.trod_struct Try.underlying114 ht
    match cs', hl, xs, hxl with
    | [v0, v1, v2], _, [y0, y1, y2], _ =>
      have g0 := hf 0 _ rfl
      have g1 := hf 1 _ rfl
      have g2 := hf 2 _ rfl
      have c1 : Try.prog.cellsOf 2 = 1 := by kernel_rfl
      simp [c1] at g0 g1 g2
      obtain ⟨a, ha, _, wa⟩ := DataW.trod_int Try.underlying2 g0
      obtain ⟨b, hb, _, wb⟩ := DataW.trod_int Try.underlying2 g1
      obtain ⟨c, hc, _, wc⟩ := DataW.trod_int Try.underlying2 g2
      simp at ha hb hc
      subst ha hb hc
      exact ⟨⟨a, b, c⟩, rfl, trivial⟩) h
  exact ⟨A, c, l, e, h1, h2, h3⟩
/-- a stroke in memory or as an argument: where its points lie, what they are -/
structure St where
  A : Option Addr
  c : Nat
  l : List Pt
def St.good (w : World) (s : St) : Prop := s.l.length ≤ s.c ∧ s.c ≤ 9223372036854775807 ∧ Rd w s.A s.l.length 3 (rowOf ptC s.l)
theorem stroke_of_trod {H : Type} {enc : TypeId × Value → H} {w : World} {fuel : Nat} {cs : List Value} {x : DataW H × List MemPlace} (hl : cs.length = 1)
    (h : DataW.trod enc Try.prog w 0 (fun _ => true) true fuel 47 cs = some x) : ∃ s : St, cs = [.slice s.A s.l.length s.c] ∧ s.good w := by
  obtain ⟨xs, k, _, _, _, hxl, hf⟩ := DataW.trod_struct Try.underlying47 h
  match cs, hl, xs, hxl with
  | [v0], _, [y0], _ =>
    have g0 := hf 0 _ rfl
    have c1 : Try.prog.cellsOf 45 = 1 := by kernel_rfl
    simp [c1] at g0
    obtain ⟨A, c, l, e, h1, h2, h3⟩ := points_of_trod g0
    exact ⟨⟨A, c, l⟩, e, h1, h2, h3⟩
/-- the argument of a law that is a stroke -/
theorem open_stroke {H : Type} {enc : TypeId × Value → H} {W : World} {base : Nat} {v : Value} {d : DataW H} {p : List MemPlace}
    (hv : Value.okWide Try.prog W .any base 47 v) (h : DataW.Trod enc Try.prog W 0 (fun _ => true) true 47 v d p) :
    ∃ s : St, v = .agg #[.slice s.A s.l.length s.c] ∧ s.good W := by
  obtain ⟨cs, rfl, hsz⟩ := okWide_struct Try.underlying47 hv
  have h1 : Try.prog.cellsOf 47 = 1 := by kernel_rfl
  obtain ⟨fuel, h⟩ := h
  obtain ⟨s, e, hs⟩ := stroke_of_trod (by simpa [Value.cells, h1] using hsz) h
  refine ⟨s, ?_, hs⟩
  have : cs = #[.slice s.A s.l.length s.c] := by
    apply Array.ext'
    simpa [Value.cells] using e
  rw [this]
end Go.Proofs.Ytnmmnikoogjhoaa
