/-
  An argument that is an ink, opened.
-/
import Derived.Test.YtnmmnikoogjhoaaInkTo
namespace Go.Proofs.Ytnmmnikoogjhoaa
set_option linter.unusedSimpArgs false
set_option linter.unusedVariables false
set_option maxRecDepth 20000
open Go.RowKit
open Go.ChangeShapes Go.WideShapes Go.Deep Go.Joins

theorem strokes_of_trod {H : Type} {enc : TypeId × Value → H} {w : World} {fuel : Nat} {cs : List Value} {x : DataW H × List MemPlace}
    (h : DataW.trod enc Try.prog w 0 (fun _ => true) true fuel 22 cs = some x) :
    ∃ (A : Option Addr) (c : Nat) (S : List St), cs = [.slice A S.length c] ∧ S.length ≤ c ∧ c ≤ 9223372036854775807 ∧ Rd w A S.length 1 (rowOf skC S) ∧ ∀ s ∈ S, s.good w :=
  open_list (α := St) (f := skC) (size := 1) (fun s => s.good w) (by omega) Try.underlying22 (by kernel_rfl) skC_len (fun cs' n y hl ht => by
    obtain ⟨s, e, hs⟩ := stroke_of_trod hl ht
    exact ⟨s, e, hs⟩) h
theorem ink_of_trod {H : Type} {enc : TypeId × Value → H} {w : World} {fuel : Nat} {cs : List Value} {x : DataW H × List MemPlace} (hl : cs.length = 1)
    (h : DataW.trod enc Try.prog w 0 (fun _ => true) true fuel 24 cs = some x) :
    ∃ (A : Option Addr) (c : Nat) (S : List St), cs = [.slice A S.length c] ∧ S.length ≤ c ∧ c ≤ 9223372036854775807 ∧ InkRd w A S.length S ∧ ∀ s ∈ S, s.good w := by
  obtain ⟨xs, k, _, _, _, hxl, hf⟩ := DataW.trod_struct Try.underlying24 h
  match cs, hl, xs, hxl with
  | [v0], _, [y0], _ =>
    have g0 := hf 0 _ rfl
    have c1 : Try.prog.cellsOf 22 = 1 := by kernel_rfl
    simp [c1] at g0
    obtain ⟨A, c, S, e, h1, h2, h3, h4⟩ := strokes_of_trod g0
    exact ⟨A, c, S, e, h1, h2, ⟨rfl, h3, fun s hs => (h4 s hs).2.2⟩, h4⟩
/-- an ink in memory or as an argument: where its strokes lie, what they are -/
structure Ik where
  A : Option Addr
  c : Nat
  l : List St
def Ik.good (w : World) (s : Ik) : Prop := s.l.length ≤ s.c ∧ s.c ≤ 9223372036854775807 ∧ InkRd w s.A s.l.length s.l ∧ ∀ t ∈ s.l, t.good w
theorem open_ink {H : Type} {enc : TypeId × Value → H} {W : World} {base : Nat} {v : Value} {d : DataW H} {p : List MemPlace}
    (hv : Value.okWide Try.prog W .any base 24 v) (h : DataW.Trod enc Try.prog W 0 (fun _ => true) true 24 v d p) :
    ∃ s : Ik, v = .agg #[.slice s.A s.l.length s.c] ∧ s.good W := by
  obtain ⟨cs, rfl, hsz⟩ := okWide_struct Try.underlying24 hv
  have h1 : Try.prog.cellsOf 24 = 1 := by kernel_rfl
  obtain ⟨fuel, h⟩ := h
  obtain ⟨A, c, S, e, h2, h3, h4, h5⟩ := ink_of_trod (by simpa [Value.cells, h1] using hsz) h
  refine ⟨⟨A, c, S⟩, ?_, h2, h3, h4, h5⟩
  have : cs = #[.slice A S.length c] := by
    apply Array.ext'
    simpa [Value.cells] using e
  rw [this]
theorem Ik.caps {w : World} {s : Ik} (h : s.good w) : ∀ t ∈ s.l, t.l.length ≤ 9223372036854775807 := fun t ht => Nat.le_trans (h.2.2.2 t ht).1 (h.2.2.2 t ht).2.1
theorem fits_each {S : List St} {n : Nat} (hl : S.length = n) (h : n + sumL S n ≤ 1048576) : ∀ s ∈ S, s.l.length ≤ 1048576 := fun s hs => by
  obtain ⟨k, hk, rfl⟩ := List.mem_iff_getElem.1 hs
  have := sumL_at hk
  rw [hl] at this
  omega
theorem each_of {S T : List St} (hp : ptsOf T = ptsOf S) (h : ∀ s ∈ S, s.l.length ≤ 1048576) : ∀ s ∈ T, s.l.length ≤ 1048576 := fun s hs => by
  have h1 : s.l ∈ ptsOf S := hp ▸ List.mem_map_of_mem hs
  obtain ⟨t, ht, e⟩ := List.mem_map.1 h1
  rw [← e]
  exact h t ht
theorem len_of {S T : List St} {n : Nat} (hp : ptsOf T = ptsOf S) (h : S.length = n) : T.length = n := by rw [← ptsOf_len, hp, ptsOf_len, h]
end Go.Proofs.Ytnmmnikoogjhoaa
