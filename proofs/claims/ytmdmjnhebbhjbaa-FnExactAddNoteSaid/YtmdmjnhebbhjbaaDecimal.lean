/-
  The program's decimal text.
-/
import Derived.Test.YtmdmjnhebbhjbaaStra
import Derived.Test.YtmdmjnhebbhjbaaShelf
namespace Go.Proofs.Ytmdmjnhebbhjbaa
set_option linter.unusedSimpArgs false
set_option linter.unusedVariables false
set_option maxRecDepth 20000
open Go.RowKit
open Go.ChangeShapes Go.WideShapes Go.Deep Go.Joins

/-- what the decimal text of a number needs of Go's library -/
def Tab10 (w : World) : Prop := Lib.TabIs Try.prog w "internal/strconv.uint64pow10" .u64 Lib.pow10Tab
theorem var_below {w w' : World} {n : String} {cs : Array Value} (h : w.var? Try.prog n = some cs) (hb : Below w.heap.size w w') : w'.var? Try.prog n = some cs := by
  unfold World.var? at h ⊢
  cases hg : Try.prog.globalNamed n with
  | none => rw [hg] at h; cases h
  | some g =>
    rw [hg] at h
    simp only [Option.bind_some] at h ⊢
    have hlt : g < w.heap.size := by
      rcases Nat.lt_or_ge g w.heap.size with h1 | h1
      · exact h1
      · rw [Array.getElem?_eq_none h1] at h; cases h
    rw [hb.block g hlt]
    exact h
theorem Tab10.below {w w' : World} (h : Tab10 w) (hb : Below w.heap.size w w') : Tab10 w' := by
  unfold Tab10 Lib.TabIs at h ⊢
  exact var_below h hb
theorem below_grow2 (w : World) (k : Nat) (os : Array Obj) : Below w.heap.size w (Go.Sort.grow (w.drewN k) os) :=
  ⟨rfl, rfl, rfl, by simp [Go.Sort.grow, World.drewN], fun i hi => by simp [Go.Sort.grow, World.drewN, Array.getElem?_append_left hi]⟩
end Go.Proofs.Ytmdmjnhebbhjbaa
