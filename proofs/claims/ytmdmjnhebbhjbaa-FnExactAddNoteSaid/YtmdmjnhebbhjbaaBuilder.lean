/-
  A strings.Builder of the call's own: what is written into it is appended to its bytes.
-/
import Derived.Test.YtmdmjnhebbhjbaaStra
import Derived.Test.YtmdmjnhebbhjbaaShelf
import Derived.Lib.Builder
import Derived.Lib.AppendStr
import Derived.Laws.Externs
namespace Go.Proofs.Ytmdmjnhebbhjbaa
set_option linter.unusedSimpArgs false
set_option linter.unusedVariables false
set_option maxRecDepth 20000
open Go.RowKit

/-- Below base all but block b is as it was. -/
structure Apart (b base : Nat) (w w' : World) : Prop where
  os : w'.os = w.os
  tape : w'.tape = w.tape
  output : w'.output = w.output
  size : w.heap.size ≤ w'.heap.size
  block : ∀ k, k < base → k ≠ b → w'.heap[k]? = w.heap[k]?
theorem Apart.refl (b base : Nat) (w : World) : Apart b base w w := ⟨rfl, rfl, rfl, Nat.le_refl _, fun _ _ _ => rfl⟩
theorem Apart.trans {b base : Nat} {x y z : World} (h : Apart b base x y) (k : Apart b base y z) : Apart b base x z :=
  ⟨k.os.trans h.os, k.tape.trans h.tape, k.output.trans h.output, Nat.le_trans h.size k.size, fun i hi hn => (k.block i hi hn).trans (h.block i hi hn)⟩
theorem Apart.below {b base B : Nat} {w w' : World} (h : Apart b base w w') (hb : B ≤ b) (hB : B ≤ base) : Below B w w' :=
  ⟨h.os, h.tape, h.output, h.size, fun k hk => h.block k (by omega) (by omega)⟩
theorem Apart.of_below {b base : Nat} {w w' : World} (h : Below base w w') : Apart b base w w' := ⟨h.os, h.tape, h.output, h.size, fun k hk _ => h.block k hk⟩
theorem Apart.cell {b base : Nat} {w w' : World} (h : Apart b base w w') {k o : Nat} (hk : k < base) (hn : k ≠ b) : w'.cell? ⟨k, o, none⟩ = w.cell? ⟨k, o, none⟩ :=
  World.cell?_of_block (a := ⟨k, o, none⟩) (h.block k hk hn)
end Go.Proofs.Ytmdmjnhebbhjbaa
