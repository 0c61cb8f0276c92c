/-
  ChannelNamed and ColumnOf: what program and reference answer, as one plain function each.
-/
import Derived.Test.YtmdmjnhebbhjbaaFileL
namespace Go.Proofs.Ytmdmjnhebbhjbaa
set_option linter.unusedSimpArgs false
set_option linter.unusedVariables false
set_option maxRecDepth 20000
open Go.RowKit
open Go.ChangeShapes Go.WideShapes Go.Deep Go.Joins

/-- a Bool that says whether -/
def Is (b : Bool) (q : Prop) : Prop := b = true ↔ q
def cnR (b : Bool) (z : Int) : Int × Int := if b = true then (if z < 0 then (0, 3) else (z, 0)) else (0, 1)
theorem cnR_no (z : Int) : cnR false z = (0, 1) := rfl
theorem cnR_none {z : Int} (h : z < 0) : cnR true z = (0, 3) := by unfold cnR; rw [if_pos rfl, if_pos h]
theorem cnR_yes {z : Int} (h : ¬ z < 0) : cnR true z = (z, 0) := by unfold cnR; rw [if_pos rfl, if_neg h]
theorem idxZ_bd (cs : List Ch) (s : ByteArray) : -1 ≤ idxZ cs s ∧ idxZ cs s < (cs.length : Int) := by
  unfold idxZ
  split <;> omega
theorem fcells (f : Fl) (w : World) (b : Nat) (t : TypeId) (h : Bk w b t #[.slice f.ch.A f.ch.l.length f.ch.c, .slice f.st.A f.st.l.length f.st.c, .slice f.no.A f.no.l.length f.no.c]) :
    w.cell? ⟨b, 0, none⟩ = some (.slice f.ch.A f.ch.l.length f.ch.c) ∧ w.cell? ⟨b, 1, none⟩ = some (.slice f.st.A f.st.l.length f.st.c) ∧ w.cell? ⟨b, 2, none⟩ = some (.slice f.no.A f.no.l.length f.no.c) ∧ b < w.heap.size := ⟨h.cell 0, h.cell 1, h.cell 2, h.lt⟩
theorem stOk_at {p : FlP} {f : Fl} (h : FileOk p) (hp : filePl f = p) {k : Nat} (hk : k < f.st.l.length) : 1 ≤ f.st.l[k].l.length ∧ f.st.l[k].l.length ≤ 60 ∧ ∀ j (h : j < f.st.l[k].l.length), RowOk f.ch.l f.st.l[k].l[j].l := by
  subst hp
  have h1 := fileOk_iff.1 h
  exact stOk_iff.1 (h1.2.2.2.2.2.1 k hk hk)
end Go.Proofs.Ytmdmjnhebbhjbaa
