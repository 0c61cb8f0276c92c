/-
  An argument that is a file, opened.
-/
import Derived.Test.YtmdmjnhebbhjbaaGreatDoorFilea
import Derived.Test.YtmdmjnhebbhjbaaGreatDoorOpen
namespace Go.Proofs.YtmdmjnhebbhjbaaGreatDoor
set_option linter.unusedSimpArgs false
set_option linter.unusedVariables false
set_option maxRecDepth 20000
open Go.RowKit
open Go.ChangeShapes Go.WideShapes Go.Deep Go.Joins

instance : Inhabited Ch := ⟨⟨⟨#[]⟩, ⟨#[]⟩, 0, 0⟩⟩
instance : Inhabited No := ⟨⟨0, 0, ⟨#[]⟩⟩⟩
instance {α : Type} : Inhabited (Sl α) := ⟨⟨none, 0, []⟩⟩
/-- the counts of a file in memory are counts of a machine -/
structure FileCap (f : Fl) : Prop where
  ch : f.ch.l.length ≤ 9223372036854775807
  chs : ∀ c ∈ f.ch.l, c.name.size ≤ 9223372036854775807 ∧ c.unit.size ≤ 9223372036854775807
  st : f.st.l.length ≤ 9223372036854775807
  sts : ∀ s ∈ f.st.l, s.l.length ≤ 9223372036854775807 ∧ ∀ r ∈ s.l, r.l.length ≤ 9223372036854775807
  no : f.no.l.length ≤ 9223372036854775807
  nos : ∀ n ∈ f.no.l, n.text.size ≤ 9223372036854775807
def FileGood (w : World) (f : Fl) : Prop := FileRd w f ∧ FileCap f
theorem row_of_trod {H : Type} {enc : TypeId × Value → H} {w : World} {fuel : Nat} {cs : List Value} {x : DataW H × List MemPlace}
    (h : DataW.trod enc Tryz.prog w 0 (fun _ => true) true fuel 58 cs = some x) :
    ∃ s : Sl Int, cs = [s.val] ∧ s.l.length ≤ 9223372036854775807 ∧ rowK.rd w s := by
  obtain ⟨A, c, l, e, h1, h2, h3, _⟩ := open_list (α := Int) (f := iC) (size := 1) (fun _ => True) (by omega) Tryz.underlying58 (by kernel_rfl) iC_len (fun cs' n y hl ht => by
    match cs', hl with
    | [v0], _ =>
      obtain ⟨a, ha, _, wa⟩ := DataW.trod_int Tryz.underlying2 ht
      simp at ha
      subst ha
      exact ⟨a, rfl, trivial⟩) h
  exact ⟨⟨A, c, l⟩, e, by show l.length ≤ _; omega, ⟨h3, fun _ _ => trivial⟩⟩
end Go.Proofs.YtmdmjnhebbhjbaaGreatDoor
