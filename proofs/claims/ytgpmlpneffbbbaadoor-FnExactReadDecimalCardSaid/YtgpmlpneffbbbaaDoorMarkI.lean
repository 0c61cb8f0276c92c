/-
  Integers of one's own, marked with numbers in order, hold them; two lists that read alike are equal by the law's comparison.
-/
import Derived.Test.YtgpmlpneffbbbaaDoorOwn
namespace Go.Proofs.YtgpmlpneffbbbaaDoor
set_option linter.unusedSimpArgs false
set_option linter.unusedVariables false
set_option maxRecDepth 20000
open Go.RowKit
open Go.ChangeShapes Go.WideShapes Go.Deep Go.Joins

section
variable {α : Type} {f : α → List Value} {E : TypeId} {size : Nat} {w : World} {base : Nat} {v : Value} {l : List α}
theorem Own.cases (h : Own f E size w base v l) : (v = .slice none 0 0 ∧ l = []) ∨ ∃ g cap C, v = .slice (some ⟨g, 0, none⟩) l.length cap ∧ base ≤ g ∧ Bk w g E C ∧ l.length ≤ cap ∧ cap ≤ maxLen ∧ C.size = cap * size := by
  rcases h.2 with ⟨rfl, h0⟩ | ⟨g, cap, cur, rfl, hb, hg, hc, hm, hs, _⟩
  · exact .inl ⟨rfl, List.eq_nil_of_length_eq_zero h0⟩
  · exact .inr ⟨g, cap, cur, rfl, hb, hg, hc, hm, hs⟩
theorem Own.rdS {A : Option Addr} {n c : Nat} (h : Own f E size w base (.slice A n c) l) (hl : l.length = n) : Rd w A n size (rowOf f l) := by
  obtain ⟨A', c', hv, _, _, hr⟩ := h.rd
  injection hv with e1 e2 e3
  subst e1
  rw [← hl]
  exact hr
theorem Own.of_filled (hf : ∀ a, (f a).length = size) {g cap : Nat} {C : Array Value} (hb : Bk w g E C) (hC : C.size = cap * size) (hn : l.length ≤ cap) (hcap : cap ≤ maxLen) (hbase : base ≤ g) (hfill : Filled f C l l.length) :
    Own f E size w base (.slice (some ⟨g, 0, none⟩) l.length cap) l := by
  refine ⟨rowOf_length hf l, .inr ⟨g, cap, C, rfl, hbase, hb, hn, hcap, hC, ?_⟩⟩
  have hl := rowOf_length hf l
  have hle : l.length * size ≤ cap * size := Nat.mul_le_mul_right _ hn
  unfold Filled at hfill
  rw [List.take_of_length_le (Nat.le_refl _)] at hfill
  apply List.ext_getElem?
  intro j
  rw [List.getElem?_take]
  rcases Nat.lt_or_ge j (l.length * size) with hj | hj
  · have hjl : j < (rowOf f l).length := by rw [hl]; exact hj
    have h1 := hfill j _ (List.getElem?_eq_getElem hjl)
    rw [if_pos hj, List.getElem?_eq_getElem hjl]
    simpa using h1
  · rw [if_neg (by omega), List.getElem?_eq_none (by rw [hl]; exact hj)]
end
theorem Filled.set1 {α : Type} {f : α → List Value} {C : Array Value} {l : List α} {k : Nat} {u : Value} (hf : ∀ a, (f a).length = 1) (h : Filled f C l k) (hk : k < l.length) (hC : l.length * 1 ≤ C.size) (e : f l[k] = [u]) :
    Filled f (C.setIfInBounds k u) l (k + 1) := by
  refine h.next hf hk (fun j hj => ?_) (fun i x hx => ?_)
  · rw [Array.getElem?_setIfInBounds_ne (by omega)]
  · rw [e] at hx
    rcases i with _ | i
    · rw [Nat.add_zero, Nat.mul_one, Array.getElem?_setIfInBounds_self_of_lt (by omega)]
      simpa using hx
    · simp at hx
theorem Filled.set3 {α : Type} {f : α → List Value} {C : Array Value} {l : List α} {k : Nat} {u v z : Value} (hf : ∀ a, (f a).length = 3) (h : Filled f C l k) (hk : k < l.length) (hC : l.length * 3 ≤ C.size) (e : f l[k] = [u, v, z]) :
    Filled f (((C.setIfInBounds (k * 3) u).setIfInBounds (k * 3 + 1) v).setIfInBounds (k * 3 + 2) z) l (k + 1) := by
  refine h.next hf hk (fun j hj => ?_) (fun i x hx => ?_)
  · rw [Array.getElem?_setIfInBounds_ne (by omega), Array.getElem?_setIfInBounds_ne (by omega), Array.getElem?_setIfInBounds_ne (by omega)]
  · rw [e] at hx
    rcases i with _ | _ | _ | i
    · rw [Array.getElem?_setIfInBounds_ne (by omega), Array.getElem?_setIfInBounds_ne (by omega), Nat.add_zero, Array.getElem?_setIfInBounds_self_of_lt (by omega)]
      simpa using hx
    · rw [Array.getElem?_setIfInBounds_ne (by omega), Array.getElem?_setIfInBounds_self_of_lt (by simp; omega)]
      simpa using hx
    · rw [Array.getElem?_setIfInBounds_self_of_lt (by simp; omega)]
      simpa using hx
    · simp at hx
theorem grownBy_trans {a b c : World} {r : Option Nat} (h : a.grownBy b r) (k : b.grownBy c r) : a.grownBy c r :=
  ⟨k.os.trans h.os, k.tape.trans h.tape, k.output.trans h.output, Nat.le_trans h.size k.size, fun i hi hn => (k.block i (Nat.lt_of_lt_of_le hi h.size) hn).trans (h.block i hi hn)⟩
theorem grownBy_refl (a : World) (r : Option Nat) : a.grownBy a r := ⟨rfl, rfl, rfl, Nat.le_refl _, fun _ _ _ => rfl⟩
theorem grownBy_of_below {a b : World} (h : Below a.heap.size a b) (r : Option Nat) : a.grownBy b r := ⟨h.os, h.tape, h.output, h.size, fun k hk _ => h.block k hk⟩
theorem grownBy_setCell (w : World) (g o : Nat) (u : Value) : w.grownBy (w.setCell ⟨g, o, none⟩ u) (some g) :=
  ⟨rfl, rfl, rfl, by simp [World.setCell], fun k _ hk => Below.heap_setCell _ _ _ _ (fun e => hk (by rw [e]))⟩
/-- what one's own row alone has changed is below its base -/
theorem below_grown {B : Nat} {w w' : World} {v : Value} (hg : w.grownBy w' v.ownBlock) (hB : ∀ k, v.ownBlock = some k → B ≤ k) (hBw : B ≤ w.heap.size) : Below B w w' := (Below.refl B w).grown hg hBw hB

/-- the first k elements of a slice of integers -/
theorem Rd.take {w : World} {A : Option Addr} {n : Nat} {l : List Int} (h : Rd w A n 1 (rowOf iC l)) {k : Nat} (hk : k ≤ n) : Rd w A k 1 (rowOf iC (l.take k)) := by
  have hr : ∀ (m : List Int), rowOf iC m = m.map (Value.int .i64) := fun m => by
    induction m with
    | nil => rfl
    | cons a m ih => show iC a ++ rowOf iC m = _; rw [ih]; rfl
  have hl : l.length = n := by have := h.1; rw [rowOf_length iC_len] at this; omega
  refine ⟨by rw [rowOf_length iC_len, List.length_take]; omega, fun h0 => ?_⟩
  obtain ⟨b, off, e, hlt, hc⟩ := h.2 (by omega)
  refine ⟨b, off, e, hlt, fun j u hu => hc j u ?_⟩
  rw [hr, List.getElem?_map, List.getElem?_take] at hu
  rw [hr, List.getElem?_map]
  split at hu
  · exact hu
  · simp at hu

def marksI (k n : Nat) : List Int := (List.range n).map fun j => ((k + j : Nat) : Int)
theorem marksI_len (k n : Nat) : (marksI k n).length = n := by simp [marksI]
theorem marksI_at (k n j : Nat) (h : j < (marksI k n).length) : (marksI k n)[j] = ((k + j : Nat) : Int) := by simp [marksI]

/-- the condition of a drawn region that appends to a row of one's own (v) and reads other rows alone -/
theorem S3.mk {W0 w' : World} {v : Value} {B : Nat} (h : Below W0.heap.size W0 w') (hB : B ≤ W0.heap.size) :
    (∀ kb ko, kb < W0.heap.size → ¬ v.ownBlock = some kb → w'.cell? ⟨kb, ko, none⟩ = W0.cell? ⟨kb, ko, none⟩) ∧ W0.heap.size ≤ w'.heap.size ∧ Below B W0 w' :=
  ⟨fun kb ko hk _ => h.cell (p := ⟨kb, ko, none⟩) hk, h.size, h.mono hB⟩
theorem S3.push {W0 w w' : World} {v : Value} {B : Nat} (h : (∀ kb ko, kb < W0.heap.size → ¬ v.ownBlock = some kb → w.cell? ⟨kb, ko, none⟩ = W0.cell? ⟨kb, ko, none⟩) ∧ W0.heap.size ≤ w.heap.size ∧ Below B W0 w)
    (hg : w.grownBy w' v.ownBlock) (hv : ∀ k, v.ownBlock = some k → B ≤ k) (hBw : B ≤ w.heap.size) :
    (∀ kb ko, kb < W0.heap.size → ¬ v.ownBlock = some kb → w'.cell? ⟨kb, ko, none⟩ = W0.cell? ⟨kb, ko, none⟩) ∧ W0.heap.size ≤ w'.heap.size ∧ Below B W0 w' :=
  ⟨fun kb ko h1 h2 => (hg.cell_far ⟨kb, ko, none⟩ (Nat.lt_of_lt_of_le h1 h.2.1) (fun e => h2 e.symm)).trans (h.1 kb ko h1 h2), Nat.le_trans h.2.1 hg.size, h.2.2.grown hg hBw hv⟩
end Go.Proofs.YtgpmlpneffbbbaaDoor
