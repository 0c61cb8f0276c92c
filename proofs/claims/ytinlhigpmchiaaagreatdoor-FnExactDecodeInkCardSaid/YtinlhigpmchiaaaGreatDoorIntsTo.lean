/-
  Lists of integers: an argument opened; a list of the law becomes one of the program.
-/
import Derived.Test.YtinlhigpmchiaaaGreatDoorOpen
import Derived.Test.YtinlhigpmchiaaaGreatDoorKda
namespace Go.Proofs.YtinlhigpmchiaaaGreatDoor
set_option linter.unusedSimpArgs false
set_option linter.unusedVariables false
set_option maxRecDepth 20000
open Go.RowKit
open Go.ChangeShapes Go.WideShapes Go.ChangeAt Go.Deep Go.Joins

instance : Inhabited Int := ⟨0⟩
structure Li where
  A : Option Addr
  c : Nat
  l : List Int
def Li.good (w : World) (s : Li) : Prop := s.l.length ≤ s.c ∧ s.c ≤ 9223372036854775807 ∧ Rd w s.A s.l.length 1 (rowOf iC s.l)
theorem open_ints_arg {H : Type} {enc : TypeId × Value → H} {W : World} {base : Nat} {v : Value} {d : DataW H} {p : List MemPlace}
    (hv : Value.okWide Tryz.prog W .any base 55 v) (h : DataW.Trod enc Tryz.prog W 0 (fun _ => true) true 55 v d p) :
    ∃ s : Li, v = .slice s.A s.l.length s.c ∧ s.good W := by
  obtain ⟨a, n, c0, rfl⟩ := okWide_slice Tryz.underlying55 hv
  obtain ⟨fuel, h⟩ := h
  obtain ⟨A, c', l, e, h1, h2, h3, _⟩ := open_list (α := Int) (f := iC) (size := 1) (fun _ => True) (by omega) Tryz.underlying55 (by kernel_rfl) iC_len (fun cs' n y hl ht => by
    match cs', hl with
    | [v0], _ =>
      obtain ⟨a, ha, _, wa⟩ := DataW.trod_int Tryz.underlying2 ht
      simp at ha
      subst ha
      exact ⟨a, rfl, trivial⟩) h
  simp only [Value.cells, List.cons.injEq, Value.slice.injEq, and_true] at e
  obtain ⟨rfl, rfl, rfl⟩ := e
  exact ⟨⟨_, _, l⟩, rfl, h1, h2, h3⟩
theorem int_info : (Tryz.prog.info? 2).map (fun i => (i.zero, i.size, i.bytes)) = some (some (.int .i64 0), 1, 8) := by kernel_rfl

end Go.Proofs.YtinlhigpmchiaaaGreatDoor
