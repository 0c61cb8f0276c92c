/-
  A variable of one cell beside a row of one's own: what a region that appends to it leaves.
-/
import Derived.Test.YtgpmlpneffbbbaaDoorMarkI
namespace Go.Proofs.YtgpmlpneffbbbaaDoor
set_option linter.unusedSimpArgs false
set_option linter.unusedVariables false
set_option maxRecDepth 20000
open Go.RowKit
open Go.ChangeShapes Go.WideShapes Go.Deep Go.Joins

theorem bk1 {w : World} {g : Nat} {t : TypeId} {a : Value} (h : Bk w g t #[a]) : w.cell? ⟨g, 0, none⟩ = some a ∧ w.frozen? ⟨g, 0, none⟩ = false := ⟨h.cell 0, h.frozen 0⟩
theorem bk1_put {w : World} {g : Nat} {t : TypeId} {a a' : Value} (h : Bk w g t #[a]) : Bk (w.setCell ⟨g, 0, none⟩ a') g t #[a'] := h.put 0 a'
theorem Own.setCell {α : Type} {f : α → List Value} {E : TypeId} {size : Nat} {w : World} {base : Nat} {v : Value} {l : List α} (h : Own f E size w base v l) (a : Addr) (u : Value) (hne : ∀ k, v.ownBlock = some k → k ≠ a.block) : Own f E size (w.setCell a u) base v l :=
  h.of_block fun k hk => Below.heap_setCell w a u k (hne k hk)
theorem S2.mk {W0 w' : World} {v : Value} {B : Nat} (h : Below W0.heap.size W0 w') (hB : B ≤ W0.heap.size) :
    (∀ kb ko, kb < W0.heap.size → ¬ v.ownBlock = some kb → ¬ kb = B → w'.cell? ⟨kb, ko, none⟩ = W0.cell? ⟨kb, ko, none⟩) ∧ W0.heap.size ≤ w'.heap.size ∧ Below B W0 w' :=
  ⟨fun kb ko hk _ _ => h.cell (p := ⟨kb, ko, none⟩) hk, h.size, h.mono hB⟩
theorem S2.push {W0 w w' : World} {v : Value} {B : Nat} (h : (∀ kb ko, kb < W0.heap.size → ¬ v.ownBlock = some kb → ¬ kb = B → w.cell? ⟨kb, ko, none⟩ = W0.cell? ⟨kb, ko, none⟩) ∧ W0.heap.size ≤ w.heap.size ∧ Below B W0 w)
    (hg : w.grownBy w' v.ownBlock) (hv : ∀ k, v.ownBlock = some k → B ≤ k) (hBw : B ≤ w.heap.size) :
    (∀ kb ko, kb < W0.heap.size → ¬ v.ownBlock = some kb → ¬ kb = B → w'.cell? ⟨kb, ko, none⟩ = W0.cell? ⟨kb, ko, none⟩) ∧ W0.heap.size ≤ w'.heap.size ∧ Below B W0 w' :=
  ⟨fun kb ko h1 h2 h3 => (hg.cell_far ⟨kb, ko, none⟩ (Nat.lt_of_lt_of_le h1 h.2.1) (fun e => h2 e.symm)).trans (h.1 kb ko h1 h2 h3), Nat.le_trans h.2.1 hg.size, h.2.2.grown hg hBw hv⟩
theorem S2.store {W0 w : World} {v : Value} {B : Nat} (h : (∀ kb ko, kb < W0.heap.size → ¬ v.ownBlock = some kb → ¬ kb = B → w.cell? ⟨kb, ko, none⟩ = W0.cell? ⟨kb, ko, none⟩) ∧ W0.heap.size ≤ w.heap.size ∧ Below B W0 w) (u : Value) :
    (∀ kb ko, kb < W0.heap.size → ¬ v.ownBlock = some kb → ¬ kb = B → (w.setCell ⟨B, 0, none⟩ u).cell? ⟨kb, ko, none⟩ = W0.cell? ⟨kb, ko, none⟩) ∧ W0.heap.size ≤ (w.setCell ⟨B, 0, none⟩ u).heap.size ∧ Below B W0 (w.setCell ⟨B, 0, none⟩ u) :=
  ⟨fun kb ko h1 h2 h3 => (World.cell?_of_block (Below.heap_setCell w ⟨B, 0, none⟩ u kb h3)).trans (h.1 kb ko h1 h2 h3), by simpa [World.setCell] using h.2.1, h.2.2.setCell (Nat.le_refl _) u⟩
theorem Bk.alloc {w : World} {g : Nat} {t : TypeId} {cs : Array Value} (h : Bk w g t cs) (ob : Obj) : Bk (w.alloc ob) g t cs := (Below.heap_alloc _ _ _ h.lt).trans h
theorem Bk.next {w w' : World} {g : Nat} {t : TypeId} {cs : Array Value} (h : Bk w g t cs) (hb : Below w.heap.size w w') : Bk w' g t cs := h.below hb h.lt
end Go.Proofs.YtgpmlpneffbbbaaDoor
