/-
  A note handed in.
-/
import Derived.Test.YtmdmjnhebbhjbaaFileArg
namespace Go.Proofs.Ytmdmjnhebbhjbaa
set_option linter.unusedSimpArgs false
set_option linter.unusedVariables false
set_option maxRecDepth 20000
open Go.RowKit
open Go.ChangeShapes Go.WideShapes Go.Deep Go.Joins

theorem open_note {H : Type} {enc : TypeId × Value → H} {W : World} {base : Nat} {v : Value} {d : DataW H} {p : List MemPlace}
    (hv : Value.okWide Try.prog W .any base 28 v) (h : DataW.Trod enc Try.prog W 0 (fun _ => true) true 28 v d p) :
    ∃ (x y : Int) (s : ByteArray), v = .agg #[.int .i64 x, .int .i64 y, .string s] ∧ s.size ≤ maxLen := by
  obtain ⟨cs, rfl, hsz⟩ := okWide_struct Try.underlying28 hv
  have h1 : Try.prog.cellsOf 28 = 3 := by kernel_rfl
  obtain ⟨fuel, h⟩ := h
  rw [h1] at hsz
  obtain ⟨xs, k, _, _, _, hxl, hf⟩ := DataW.trod_struct Try.underlying28 h
  obtain ⟨v0, v1, v2, rfl⟩ : ∃ v0 v1 v2, cs = #[v0, v1, v2] := by
    obtain ⟨l⟩ := cs
    match l, hsz with
    | [v0, v1, v2], _ => exact ⟨v0, v1, v2, rfl⟩
  match xs, hxl with
  | [y0, y1, y2], _ =>
    have g0 := hf 0 _ rfl
    have g1 := hf 1 _ rfl
    have g2 := hf 2 _ rfl
    have c1 : Try.prog.cellsOf 2 = 1 := by kernel_rfl
    have c2 : Try.prog.cellsOf 9 = 1 := by kernel_rfl
    simp [c1, c2, Value.cells] at g0 g1 g2
    obtain ⟨a, ha, _, wa⟩ := DataW.trod_int Try.underlying2 g0
    obtain ⟨b, hb, _, wb⟩ := DataW.trod_int Try.underlying2 g1
    obtain ⟨c, hc, _, wc⟩ := DataW.trod_string Try.underlying9 g2
    (try simp at ha hb hc)
    subst ha hb hc
    exact ⟨a, b, c, rfl, wc⟩
end Go.Proofs.Ytmdmjnhebbhjbaa
