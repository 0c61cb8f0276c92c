/-
  An argument that is a file, opened.
-/
import Derived.Test.YtmdmjnhebbhjbaaFilea
import Derived.Test.YtmdmjnhebbhjbaaOpen
namespace Go.Proofs.Ytmdmjnhebbhjbaa
set_option linter.unusedSimpArgs false
set_option linter.unusedVariables false
set_option maxRecDepth 20000
open Go.RowKit
open Go.ChangeShapes Go.WideShapes Go.Deep Go.Joins

instance : Inhabited Ch := ⟨⟨⟨#[]⟩, ⟨#[]⟩, 0, 0⟩⟩
instance : Inhabited No := ⟨⟨0, 0, ⟨#[]⟩⟩⟩
instance {α : Type} : Inhabited (Sl α) := ⟨⟨none, 0, []⟩⟩
/-- the counts of a file in memory are counts of a machine -/
structure FileCap (f : Fl) : Prop where
  ch : f.ch.l.length ≤ 9223372036854775807
  chs : ∀ c ∈ f.ch.l, c.name.size ≤ 9223372036854775807 ∧ c.unit.size ≤ 9223372036854775807
  st : f.st.l.length ≤ 9223372036854775807
  sts : ∀ s ∈ f.st.l, s.l.length ≤ 9223372036854775807 ∧ ∀ r ∈ s.l, r.l.length ≤ 9223372036854775807
  no : f.no.l.length ≤ 9223372036854775807
  nos : ∀ n ∈ f.no.l, n.text.size ≤ 9223372036854775807
def FileGood (w : World) (f : Fl) : Prop := FileRd w f ∧ FileCap f
theorem chs_of_trod {H : Type} {enc : TypeId × Value → H} {w : World} {fuel : Nat} {cs : List Value} {x : DataW H × List MemPlace}
    (h : DataW.trod enc Try.prog w 0 (fun _ => true) true fuel 22 cs = some x) :
    ∃ s : Sl Ch, cs = [s.val] ∧ s.l.length ≤ 9223372036854775807 ∧ chsK.rd w s ∧ ∀ c ∈ s.l, c.name.size ≤ 9223372036854775807 ∧ c.unit.size ≤ 9223372036854775807 := by
  obtain ⟨A, c, l, e, h1, h2, h3, h4⟩ := open_list (α := Ch) (f := chC) (size := 4) (fun c => c.name.size ≤ 9223372036854775807 ∧ c.unit.size ≤ 9223372036854775807) (by omega) Try.underlying22 (by kernel_rfl) chC_len (fun cs' n y hl ht => by
    obtain ⟨xs, k, _, _, _, hxl, hf⟩ := DataW.trod_struct Try.underlying67 ht
    match cs', hl, xs, hxl with
    | [v0, v1, v2, v3], _, [y0, y1, y2, y3], _ =>
      have g0 := hf 0 _ rfl
      have g1 := hf 1 _ rfl
      have g2 := hf 2 _ rfl
      have g3 := hf 3 _ rfl
      have c1 : Try.prog.cellsOf 2 = 1 := by kernel_rfl
      have c2 : Try.prog.cellsOf 9 = 1 := by kernel_rfl
      simp [c1, c2] at g0 g1 g2 g3
      obtain ⟨a, ha, _, wa⟩ := DataW.trod_string Try.underlying9 g0
      obtain ⟨b, hb, _, wb⟩ := DataW.trod_string Try.underlying9 g1
      obtain ⟨c, hc, _, wc⟩ := DataW.trod_int Try.underlying2 g2
      obtain ⟨d, hd, _, wd⟩ := DataW.trod_int Try.underlying2 g3
      simp at ha hb hc hd
      subst ha hb hc hd
      unfold maxLen at wa wb
      exact ⟨⟨a, b, c, d⟩, rfl, by show a.size ≤ _; omega, by show b.size ≤ _; omega⟩) h
  exact ⟨⟨A, c, l⟩, e, by show l.length ≤ _; omega, ⟨h3, fun _ _ => trivial⟩, h4⟩
theorem nos_of_trod {H : Type} {enc : TypeId × Value → H} {w : World} {fuel : Nat} {cs : List Value} {x : DataW H × List MemPlace}
    (h : DataW.trod enc Try.prog w 0 (fun _ => true) true fuel 24 cs = some x) :
    ∃ s : Sl No, cs = [s.val] ∧ s.l.length ≤ 9223372036854775807 ∧ nosK.rd w s ∧ ∀ c ∈ s.l, c.text.size ≤ 9223372036854775807 := by
  obtain ⟨A, c, l, e, h1, h2, h3, h4⟩ := open_list (α := No) (f := noC) (size := 3) (fun c => c.text.size ≤ 9223372036854775807) (by omega) Try.underlying24 (by kernel_rfl) noC_len (fun cs' n y hl ht => by
    obtain ⟨xs, k, _, _, _, hxl, hf⟩ := DataW.trod_struct Try.underlying28 ht
    match cs', hl, xs, hxl with
    | [v0, v1, v2], _, [y0, y1, y2], _ =>
      have g0 := hf 0 _ rfl
      have g1 := hf 1 _ rfl
      have g2 := hf 2 _ rfl
      have c1 : Try.prog.cellsOf 2 = 1 := by kernel_rfl
      have c2 : Try.prog.cellsOf 9 = 1 := by kernel_rfl
      simp [c1, c2] at g0 g1 g2
      obtain ⟨a, ha, _, wa⟩ := DataW.trod_int Try.underlying2 g0
      obtain ⟨b, hb, _, wb⟩ := DataW.trod_int Try.underlying2 g1
      obtain ⟨c, hc, _, wc⟩ := DataW.trod_string Try.underlying9 g2
      simp at ha hb hc
      subst ha hb hc
      unfold maxLen at wc
      exact ⟨⟨a, b, c⟩, rfl, by show c.size ≤ _; omega⟩) h
  exact ⟨⟨A, c, l⟩, e, by show l.length ≤ _; omega, ⟨h3, fun _ _ => trivial⟩, h4⟩
theorem row_of_trod {H : Type} {enc : TypeId × Value → H} {w : World} {fuel : Nat} {cs : List Value} {x : DataW H × List MemPlace}
    (h : DataW.trod enc Try.prog w 0 (fun _ => true) true fuel 78 cs = some x) :
    ∃ s : Sl Int, cs = [s.val] ∧ s.l.length ≤ 9223372036854775807 ∧ rowK.rd w s := by
  obtain ⟨A, c, l, e, h1, h2, h3, _⟩ := open_list (α := Int) (f := iC) (size := 1) (fun _ => True) (by omega) Try.underlying78 (by kernel_rfl) iC_len (fun cs' n y hl ht => by
    match cs', hl with
    | [v0], _ =>
      obtain ⟨a, ha, _, wa⟩ := DataW.trod_int Try.underlying2 ht
      simp at ha
      subst ha
      exact ⟨a, rfl, trivial⟩) h
  exact ⟨⟨A, c, l⟩, e, by show l.length ≤ _; omega, ⟨h3, fun _ _ => trivial⟩⟩
theorem rows_of_trod {H : Type} {enc : TypeId × Value → H} {w : World} {fuel : Nat} {cs : List Value} {x : DataW H × List MemPlace} (hl : cs.length = 1)
    (h : DataW.trod enc Try.prog w 0 (fun _ => true) true fuel 71 cs = some x) :
    ∃ s : Sl (Sl Int), cs = [s.val] ∧ s.l.length ≤ 9223372036854775807 ∧ rowsK.rd w s ∧ ∀ r ∈ s.l, r.l.length ≤ 9223372036854775807 := by
  obtain ⟨xs, k, _, _, _, hxl, hf⟩ := DataW.trod_struct Try.underlying71 h
  match cs, hl, xs, hxl with
  | [v0], _, [y0], _ =>
    have g0 := hf 0 _ rfl
    have c1 : Try.prog.cellsOf 69 = 1 := by kernel_rfl
    simp [c1] at g0
    obtain ⟨A, c, l, e, h1, h2, h3, h4⟩ := open_list (α := Sl Int) (f := hdC) (size := 1) (fun s => s.l.length ≤ 9223372036854775807 ∧ rowK.rd w s) (by omega) Try.underlying69 (by kernel_rfl) hdC_len (fun cs' n y hl ht => by
      obtain ⟨s, e, hs⟩ := row_of_trod ht
      exact ⟨s, e, hs⟩) g0
    exact ⟨⟨A, c, l⟩, e, by show l.length ≤ _; omega, ⟨h3, fun a ha => (h4 a ha).2⟩, fun a ha => (h4 a ha).1⟩
theorem rowsS_of_trod {H : Type} {enc : TypeId × Value → H} {w : World} {fuel : Nat} {cs : List Value} {x : DataW H × List MemPlace}
    (h : DataW.trod enc Try.prog w 0 (fun _ => true) true fuel 23 cs = some x) :
    ∃ s : Sl (Sl (Sl Int)), cs = [s.val] ∧ s.l.length ≤ 9223372036854775807 ∧ stK.rd w s ∧ ∀ t ∈ s.l, t.l.length ≤ 9223372036854775807 ∧ ∀ r ∈ t.l, r.l.length ≤ 9223372036854775807 := by
  obtain ⟨A, c, l, e, h1, h2, h3, h4⟩ := open_list (α := Sl (Sl Int)) (f := hdC) (size := 1) (fun s => s.l.length ≤ 9223372036854775807 ∧ rowsK.rd w s ∧ ∀ r ∈ s.l, r.l.length ≤ 9223372036854775807) (by omega) Try.underlying23 (by kernel_rfl) hdC_len (fun cs' n y hl ht => by
    obtain ⟨s, e, hs⟩ := rows_of_trod hl ht
    exact ⟨s, e, hs⟩) h
  exact ⟨⟨A, c, l⟩, e, by show l.length ≤ _; omega, ⟨h3, fun a ha => (h4 a ha).2.1⟩, fun a ha => ⟨(h4 a ha).1, (h4 a ha).2.2⟩⟩
theorem open_file {H : Type} {enc : TypeId × Value → H} {W : World} {base : Nat} {v : Value} {d : DataW H} {p : List MemPlace}
    (hv : Value.okWide Try.prog W .any base 26 v) (h : DataW.Trod enc Try.prog W 0 (fun _ => true) true 26 v d p) :
    ∃ f : Fl, v = .agg #[.slice f.ch.A f.ch.l.length f.ch.c, .slice f.st.A f.st.l.length f.st.c, .slice f.no.A f.no.l.length f.no.c] ∧ FileGood W f := by
  obtain ⟨cs, rfl, hsz⟩ := okWide_struct Try.underlying26 hv
  have h1 : Try.prog.cellsOf 26 = 3 := by kernel_rfl
  obtain ⟨fuel, h⟩ := h
  rw [h1] at hsz
  obtain ⟨xs, k, _, _, _, hxl, hf⟩ := DataW.trod_struct Try.underlying26 h
  obtain ⟨v0, v1, v2, rfl⟩ : ∃ v0 v1 v2, cs = #[v0, v1, v2] := by
    obtain ⟨l⟩ := cs
    match l, hsz with
    | [v0, v1, v2], _ => exact ⟨v0, v1, v2, rfl⟩
  match xs, hxl with
  | [y0, y1, y2], _ =>
    have g0 := hf 0 _ rfl
    have g1 := hf 1 _ rfl
    have g2 := hf 2 _ rfl
    have c1 : Try.prog.cellsOf 22 = 1 := by kernel_rfl
    have c2 : Try.prog.cellsOf 23 = 1 := by kernel_rfl
    have c3 : Try.prog.cellsOf 24 = 1 := by kernel_rfl
    simp [c1, c2, c3, Value.cells] at g0 g1 g2
    obtain ⟨s0, e0, a0, r0, q0⟩ := chs_of_trod g0
    obtain ⟨s1, e1, a1, r1, q1⟩ := rowsS_of_trod g1
    obtain ⟨s2, e2, a2, r2, q2⟩ := nos_of_trod g2
    simp at e0 e1 e2
    subst e0 e1 e2
    exact ⟨⟨s0, s1, s2⟩, rfl, ⟨r0, r1, r2⟩, ⟨a0, q0, a1, q1, a2, q2⟩⟩
end Go.Proofs.Ytmdmjnhebbhjbaa
