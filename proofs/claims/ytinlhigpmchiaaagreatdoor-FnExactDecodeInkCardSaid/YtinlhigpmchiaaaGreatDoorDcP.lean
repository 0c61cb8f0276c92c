/-
  Columns and strokes read from bits: the ways that a walk may go, in plain words.
-/
import Derived.Test.YtinlhigpmchiaaaGreatDoorRdr
namespace Go.Proofs.YtinlhigpmchiaaaGreatDoor
set_option linter.unusedSimpArgs false
set_option linter.unusedVariables false
set_option maxRecDepth 20000
open Go.RowKit
open Go.ChangeShapes Go.WideShapes Go.Deep Go.Joins

theorem colI_num {s : ByteArray} {a m : Nat} (h : numO s a 4 = none) : colI s a m = none := by unfold colI; rw [h]
theorem colI_k {s : ByteArray} {a m k b : Nat} (h : numO s a 4 = some (k, b)) (hk : ¬ k ≤ 12) : colI s a m = none := by unfold colI; rw [h]; exact if_neg hk
theorem colI_rice {s : ByteArray} {a m k b : Nat} (h : numO s a 4 = some (k, b)) (h2 : ricesO s k b m = none) : colI s a m = none := by
  unfold colI; rw [h]; simp only; rw [h2]; split <;> rfl
theorem colI_from {s : ByteArray} {a m k b c : Nat} {l L : List Int} (h : numO s a 4 = some (k, b)) (h2 : ricesO s k b m = some (l, c)) (h3 : fromR l = (L, 2)) : colI s a m = none := by
  unfold colI; rw [h]; simp only; rw [h2]; simp only; rw [h3]; split
  · exact if_neg (show ¬ (2 : Int) = 0 by decide)
  · rfl
theorem colI_yes {s : ByteArray} {a m k b c : Nat} {l L : List Int} (h : numO s a 4 = some (k, b)) (hk : k ≤ 12) (h2 : ricesO s k b m = some (l, c)) (h3 : fromR l = (L, 0)) : colI s a m = some (L, c) := by
  unfold colI; rw [h]; simp only; rw [h2]; simp only; rw [h3, if_pos hk]; exact if_pos rfl
theorem fromR_code (l : List Int) : (fromR l).2 = 0 ∨ (fromR l).2 = 2 := by
  unfold fromR
  split
  · split
    · exact .inl rfl
    · exact .inr rfl
  · exact .inr rfl
theorem colS_num {s : ByteArray} {a m : Nat} (h : numO s a 4 = none) : colS s a m = none := by unfold colS; rw [h]
theorem colS_k {s : ByteArray} {a m k b : Nat} (h : numO s a 4 = some (k, b)) (hk : ¬ (k ≤ 12 ∨ m = 0)) : colS s a m = none := by unfold colS; rw [h]; exact if_neg hk
theorem colS_rice {s : ByteArray} {a m k b : Nat} (h : numO s a 4 = some (k, b)) (h2 : ricesO s k b m = none) : colS s a m = none := by
  unfold colS; rw [h]; simp only; rw [h2]; split <;> rfl
theorem colS_from {s : ByteArray} {a m k b c : Nat} {l : List Int} (h : numO s a 4 = some (k, b)) (h2 : ricesO s k b m = some (l, c)) (h3 : fromTo l l.length = none) : colS s a m = none := by
  unfold colS; rw [h]; simp only; rw [h2]; simp only; rw [h3]; split <;> rfl
theorem colS_yes {s : ByteArray} {a m k b c : Nat} {l L : List Int} (h : numO s a 4 = some (k, b)) (hk : k ≤ 12 ∨ m = 0) (h2 : ricesO s k b m = some (l, c)) (h3 : fromTo l l.length = some L) : colS s a m = some (L, c) := by
  unfold colS; rw [h]; simp only; rw [h2]; simp only; rw [h3]; exact if_pos hk
theorem skO_num {col : ByteArray → Nat → Nat → Option (List Int × Nat)} {s : ByteArray} {a : Nat} (h : numO s a 8 = none) : skO col s a = none := by unfold skO; rw [h]
theorem skO_1 {col : ByteArray → Nat → Nat → Option (List Int × Nat)} {s : ByteArray} {a m b : Nat} (h : numO s a 8 = some (m, b)) (h1 : col s b m = none) : skO col s a = none := by unfold skO; rw [h]; simp only; rw [h1]
theorem skO_2 {col : ByteArray → Nat → Nat → Option (List Int × Nat)} {s : ByteArray} {a m b c : Nat} {X : List Int} (h : numO s a 8 = some (m, b)) (h1 : col s b m = some (X, c)) (h2 : col s c m = none) : skO col s a = none := by
  unfold skO; rw [h]; simp only; rw [h1]; simp only; rw [h2]
theorem skO_3 {col : ByteArray → Nat → Nat → Option (List Int × Nat)} {s : ByteArray} {a m b c d : Nat} {X Y : List Int} (h : numO s a 8 = some (m, b)) (h1 : col s b m = some (X, c)) (h2 : col s c m = some (Y, d)) (h3 : col s d m = none) : skO col s a = none := by
  unfold skO; rw [h]; simp only; rw [h1]; simp only; rw [h2]; simp only; rw [h3]
theorem skO_yes {col : ByteArray → Nat → Nat → Option (List Int × Nat)} {s : ByteArray} {a m b c d e : Nat} {X Y T : List Int} (h : numO s a 8 = some (m, b)) (h1 : col s b m = some (X, c)) (h2 : col s c m = some (Y, d)) (h3 : col s d m = some (T, e)) : skO col s a = some (zipTo X Y T m, e) := by
  unfold skO; rw [h]; simp only; rw [h1]; simp only; rw [h2]; simp only; rw [h3]
/-- four readings, one behind the other, the last broken: the stroke is broken -/
theorem sk_bad {col : ByteArray → Nat → Nat → Option (List Int × Nat)} {s : ByteArray} {a m b c d e : Nat} {X Y T : List Int} {f g0 g1 g2 : Bool} (h0 : Got (numO s a 8) f m b g0) (h1 : Got (col s b m) g0 X c g1) (h2 : Got (col s c m) g1 Y d g2) (h3 : Got (col s d m) g2 T e true) : f = true ∨ skO col s a = none := by
  cases g0
  · obtain ⟨rfl, n0⟩ := h0.good
    right
    cases g1
    · obtain ⟨_, n1⟩ := h1.good
      cases g2
      · obtain ⟨_, n2⟩ := h2.good
        rcases h3.bad with h | h
        · cases h
        · exact skO_3 n0 n1 n2 h
      · rcases h2.bad with h | h
        · cases h
        · exact skO_2 n0 n1 h
    · rcases h1.bad with h | h
      · cases h
      · exact skO_1 n0 h
  · rcases h0.bad with h | h
    · exact .inl h
    · exact .inr (skO_num h)
theorem sk_good {col : ByteArray → Nat → Nat → Option (List Int × Nat)} {s : ByteArray} {a m b c d e : Nat} {X Y T : List Int} {f g0 g1 g2 : Bool} (h0 : Got (numO s a 8) f m b g0) (h1 : Got (col s b m) g0 X c g1) (h2 : Got (col s c m) g1 Y d g2) (h3 : Got (col s d m) g2 T e false) :
    f = false ∧ numO s a 8 = some (m, b) ∧ col s b m = some (X, c) ∧ col s c m = some (Y, d) ∧ col s d m = some (T, e) := by
  obtain ⟨rfl, n3⟩ := h3.good
  obtain ⟨rfl, n2⟩ := h2.good
  obtain ⟨rfl, n1⟩ := h1.good
  obtain ⟨rfl, n0⟩ := h0.good
  exact ⟨rfl, n0, n1, n2, n3⟩
theorem colI_len {s : ByteArray} (hall : s.data.toList.all isBit = true) {a m b : Nat} {L : List Int} (h : colI s a m = some (L, b)) : L.length = m := (colS_is hall (colI_colS h)).1
theorem zip_at {X Y T : List Int} {k : Nat} (hx : k < X.length) (hy : k < Y.length) (ht : k < T.length) : zipTo X Y T (k + 1) = zipTo X Y T k ++ [⟨X[k], Y[k], T[k]⟩] := by
  rw [zipTo_next, getD_i hx, getD_i hy, getD_i ht]
theorem Apart.grow {b base : Nat} {W0 w w' : World} {ob : Option Nat} (h : Apart b base W0 w) (hg : w.grownBy w' ob) (hBw : base ≤ w.heap.size) (hv : ∀ k, ob = some k → base ≤ k) : Apart b base W0 w' :=
  h.trans (Apart.of_below ((Below.refl base w).grown hg hBw hv))
theorem Apart.then {b base B : Nat} {W0 w w' : World} (h : Apart b base W0 w) (hB : Below B w w') (hb : base ≤ B) : Apart b base W0 w' := h.trans (Apart.of_below (hB.mono hb))
theorem Apart.other {b base : Nat} {W0 w : World} (h : Apart b base W0 w) (a : Addr) (u : Value) (ha : base ≤ a.block) : Apart b base W0 (w.setCell a u) := h.trans (Apart.of_below ((Below.refl base w).setCell ha u))
theorem setCell_size (w : World) (a : Addr) (u : Value) : (w.setCell a u).heap.size = w.heap.size := by simp [World.setCell]
end Go.Proofs.YtinlhigpmchiaaaGreatDoor
