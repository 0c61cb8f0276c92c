/-
  Reading an ink: sizes, and what is answered, in plain words.
-/
import Derived.Test.YtmdmjnhebbhjbaaGreatDoorRdI
import Derived.Test.YtmdmjnhebbhjbaaGreatDoorInkTxS
import Derived.Test.YtmdmjnhebbhjbaaGreatDoorInkMka
namespace Go.Proofs.YtmdmjnhebbhjbaaGreatDoor
set_option linter.unusedSimpArgs false
set_option linter.unusedVariables false
set_option maxRecDepth 20000
open Go.RowKit
open Go.ChangeShapes Go.WideShapes Go.Deep Go.Joins

theorem linesB_of {s : ByteArray} {L : List (List UInt8)} (h : linesD s.data.toList = some L) : linesB s = (L.map bs, true) := by unfold linesB; rw [h]
theorem linesB_none {s : ByteArray} (h : linesD s.data.toList = none) : linesB s = ([], false) := by unfold linesB; rw [h]
theorem splitL_bd {c : UInt8} : ∀ (m : List UInt8), ∀ l ∈ splitL c m, l.length ≤ m.length
  | [], l, hl => by simp [splitL] at hl; subst hl; simp
  | b :: m, l, hl => by
    have ih := splitL_bd (c := c) m
    obtain ⟨q, r, e⟩ : ∃ q r, splitL c m = q :: r := by
      cases h : splitL c m with
      | nil => exact absurd h (splitL_ne c m)
      | cons q r => exact ⟨q, r, rfl⟩
    rw [e] at ih
    by_cases hb : b = c
    · rw [splitL, if_pos hb, e] at hl
      rcases List.mem_cons.1 hl with rfl | hl
      · simp
      · have := ih l hl
        simp; omega
    · rw [splitL, if_neg hb, e] at hl
      rcases List.mem_cons.1 hl with rfl | hl
      · have := ih q (by simp)
        simp; omega
      · have := ih l (List.mem_cons_of_mem _ hl)
        simp; omega
theorem linesD_bd {l : List UInt8} {L : List (List UInt8)} (h : linesD l = some L) (hl : l.length ≤ 1048576) : L.length ≤ 1048576 ∧ ∀ x ∈ L, x.length ≤ 1048575 := by
  unfold linesD at h
  split at h
  · injection h with h; subst h; simp
  · rename_i h0
    split at h
    · injection h with h
      subst h
      have h1 : l.dropLast.length ≤ 1048575 := by rw [List.length_dropLast]; omega
      refine ⟨?_, fun x hx => Nat.le_trans (splitL_bd _ x hx) h1⟩
      have := splitL_count 10 l.dropLast
      omega
    · cases h
theorem iPt_yes {w : List UInt8} {a b c : Int} (h : numsD w = [a, b, c]) : iPt w = some ⟨a, b, c⟩ := by unfold iPt; rw [h]
theorem iPt_no {w : List UInt8} (h : ¬ (numsD w).length = 3) : iPt w = none := by
  unfold iPt
  match e : numsD w with
  | [a, b, c] => rw [e] at h; exact absurd rfl h
  | [] => rfl
  | [_] => rfl
  | [_, _] => rfl
  | _ :: _ :: _ :: _ :: _ => rfl
theorem len3 {α : Type} {l : List α} (h : l.length = 3) : ∃ a b c, l = [a, b, c] := by
  match l, h with
  | [a, b, c], _ => exact ⟨a, b, c, rfl⟩
theorem lineM_none {f : List UInt8 → Option Pt} {s : List UInt8} {L : List (List UInt8)} (hs : linesD s = some L) {k : Nat} (hk : k < L.length) {j : Nat} (hj : j < (splitL 32 L[k]).length) (h : f (splitL 32 L[k])[j] = none) : inkM f s = none := by
  unfold inkM
  rw [hs]
  exact allM_none hk (allM_none hj h)
theorem readI_none {s : List UInt8} (h : inkM iPt s = none) : readI s = ([], false) := by unfold readI; rw [h]
theorem readI_lines {s : List UInt8} (h : linesD s = none) : readI s = ([], false) := readI_none (by unfold inkM; rw [h])
theorem readI_out {s : List UInt8} {P : List (List Pt)} (h : inkM iPt s = some P) (hv : inkB P = false) : readI s = ([], false) := by unfold readI; rw [h]; simp [hv]
theorem readI_other {s : List UInt8} {P : List (List Pt)} (h : inkM iPt s = some P) (hv : inkB P = true) (ht : ¬ inkTx P = s) : readI s = ([], false) := by unfold readI; rw [h]; simp [hv, ht]
theorem readI_yes {s : List UInt8} {P : List (List Pt)} (h : inkM iPt s = some P) (hv : inkB P = true) (ht : inkTx P = s) : readI s = (P, true) := by unfold readI; rw [h]; simp [hv, ht]
theorem sPt_no {w : List UInt8} (h : ¬ (splitL 44 w).length = 3) : sPt w = none := by
  unfold sPt
  match e : splitL 44 w with
  | [a, b, c] => rw [e] at h; exact absurd rfl h
  | [] => rfl
  | [_] => rfl
  | [_, _] => rfl
  | _ :: _ :: _ :: _ :: _ => rfl
theorem readS_none {s : List UInt8} (h : inkM sPt s = none) : readS s = ([], false) := by unfold readS; rw [h]
theorem readS_lines {s : List UInt8} (h : linesD s = none) : readS s = ([], false) := readS_none (by unfold inkM; rw [h])
theorem readS_out {s : List UInt8} {P : List (List Pt)} (h : inkM sPt s = some P) (hv : inkB P = false) : readS s = ([], false) := by unfold readS; rw [h]; simp [hv]
theorem readS_yes {s : List UInt8} {P : List (List Pt)} (h : inkM sPt s = some P) (hv : inkB P = true) : readS s = (P, true) := by unfold readS; rw [h]; simp [hv]
theorem readS_small (s : List UInt8) : smallP (readS s).1 := by
  unfold readS
  cases inkM sPt s with
  | none => exact smallP_nil
  | some P =>
    simp only []
    split
    · rename_i h; exact smallP_of h
    · exact smallP_nil
theorem inkM_all {f : List UInt8 → Option Pt} {s : List UInt8} {L : List (List UInt8)} {P : List (List Pt)} (hs : linesD s = some L) (h : allM (lineM f) L = some P) : inkM f s = some P := by unfold inkM; rw [hs]; exact h
theorem ptsOf_push {T : List St} {P : List (List Pt)} {q : St} (h : ptsOf T = P) : ptsOf (T ++ [q]) = P ++ [q.l] := by rw [← h]; simp [ptsOf]
/-- the strokes of a text are not too long -/
theorem read_each {f : List UInt8 → Option Pt} {L : List (List UInt8)} {P : List (List Pt)} {T : List St} (h : allM (lineM f) L = some P) (hT : ptsOf T = P) (hL : ∀ x ∈ L, x.length ≤ 1048575) : ∀ s ∈ T, s.l.length ≤ 1048576 := fun s hs => by
  have key : ∀ {L : List (List UInt8)} {P : List (List Pt)}, allM (lineM f) L = some P → (∀ x ∈ L, x.length ≤ 1048575) → ∀ l ∈ P, l.length ≤ 1048576 := by
    intro L
    induction L with
    | nil => intro P h _ l hl; rw [allM_nil] at h; injection h with h; subst h; cases hl
    | cons a L ih =>
      intro P h hL l hl
      obtain ⟨b, r, h1, h2, rfl⟩ := allM_cons.1 h
      rcases List.mem_cons.1 hl with rfl | hl
      · have h3 := allM_len h1
        have h4 := splitL_count 32 a
        have h5 := hL a (by simp)
        omega
      · exact ih h2 (fun x hx => hL x (List.mem_cons_of_mem _ hx)) l hl
  have h1 : s.l ∈ P := hT ▸ List.mem_map_of_mem hs
  exact key h hL _ h1
theorem split_at {c : UInt8} {x : ByteArray} {l : List UInt8} (hx : x.data.toList = l) {j : Nat} (h : j < (splitBs c x).length) (h2 : j < (splitL c l).length) : (splitBs c x)[j].data.toList = (splitL c l)[j] := by
  subst hx
  simp only [splitBs, List.getElem_map, bs_list]
theorem inkTx_eq {P : List (List Pt)} {s y : ByteArray} {b : Bool} (hy : bs (inkTx P) = y) (h : (inkTx P == s.data.toList) = b) : (y.toList == s.toList) = b := by rw [toList_data, toList_data, ← hy, bs_list, h]
/-- what stays while one variable's block is written and things are made behind 'base' -/
theorem S6.mk {W0 w' : World} {C : Nat} (h : Below W0.heap.size W0 w') (hB : C ≤ W0.heap.size) :
    (∀ kb ko, kb < W0.heap.size → ¬ kb = C → w'.cell? ⟨kb, ko, none⟩ = W0.cell? ⟨kb, ko, none⟩) ∧ W0.heap.size ≤ w'.heap.size ∧ Below C W0 w' :=
  ⟨fun kb ko hk _ => h.cell (p := ⟨kb, ko, none⟩) hk, h.size, h.mono hB⟩
theorem S6.next {W0 w w' : World} {C : Nat} (h : (∀ kb ko, kb < W0.heap.size → ¬ kb = C → w.cell? ⟨kb, ko, none⟩ = W0.cell? ⟨kb, ko, none⟩) ∧ W0.heap.size ≤ w.heap.size ∧ Below C W0 w) (hb : Below w.heap.size w w') (hC : C ≤ W0.heap.size) :
    (∀ kb ko, kb < W0.heap.size → ¬ kb = C → w'.cell? ⟨kb, ko, none⟩ = W0.cell? ⟨kb, ko, none⟩) ∧ W0.heap.size ≤ w'.heap.size ∧ Below C W0 w' :=
  ⟨fun kb ko hk hn => (hb.cell (p := ⟨kb, ko, none⟩) (Nat.lt_of_lt_of_le hk h.2.1)).trans (h.1 kb ko hk hn), Nat.le_trans h.2.1 hb.size, h.2.2.trans (hb.mono (Nat.le_trans hC h.2.1))⟩
theorem S6.store {W0 w : World} {C : Nat} (h : (∀ kb ko, kb < W0.heap.size → ¬ kb = C → w.cell? ⟨kb, ko, none⟩ = W0.cell? ⟨kb, ko, none⟩) ∧ W0.heap.size ≤ w.heap.size ∧ Below C W0 w) (u : Value) :
    (∀ kb ko, kb < W0.heap.size → ¬ kb = C → (w.setCell ⟨C, 0, none⟩ u).cell? ⟨kb, ko, none⟩ = W0.cell? ⟨kb, ko, none⟩) ∧ W0.heap.size ≤ (w.setCell ⟨C, 0, none⟩ u).heap.size ∧ Below C W0 (w.setCell ⟨C, 0, none⟩ u) :=
  ⟨fun kb ko h1 h3 => (World.cell?_of_block (Below.heap_setCell w ⟨C, 0, none⟩ u kb h3)).trans (h.1 kb ko h1 h3), by simpa [World.setCell] using h.2.1, h.2.2.setCell (Nat.le_refl _) u⟩
theorem S5.mk {W0 w' : World} {v : Value} {B base : Nat} (h : Below W0.heap.size W0 w') (hB : base ≤ W0.heap.size) :
    (∀ kb ko, kb < W0.heap.size → ¬ v.ownBlock = some kb → ¬ kb = B → w'.cell? ⟨kb, ko, none⟩ = W0.cell? ⟨kb, ko, none⟩) ∧ W0.heap.size ≤ w'.heap.size ∧ Apart B base W0 w' :=
  ⟨fun kb ko hk _ _ => h.cell (p := ⟨kb, ko, none⟩) hk, h.size, Apart.of_below (h.mono hB)⟩
theorem Apart.grown {b base : Nat} {W0 w w' : World} {ob : Option Nat} (h : Apart b base W0 w) (hg : w.grownBy w' ob) (hBw : base ≤ w.heap.size) (hv : ∀ k, ob = some k → base ≤ k) : Apart b base W0 w' :=
  h.trans (Apart.of_below ((Below.refl base w).grown hg hBw hv))
theorem Apart.store {b base : Nat} {W0 w : World} (h : Apart b base W0 w) (u : Value) : Apart b base W0 (w.setCell ⟨b, 0, none⟩ u) := by
  have h0 : Below 0 w (w.setCell ⟨b, 0, none⟩ u) := (Below.refl 0 w).setCell (Nat.zero_le _) u
  exact h.trans ⟨h0.os, h0.tape, h0.output, h0.size, fun k _ hn => Below.heap_setCell w ⟨b, 0, none⟩ u k hn⟩
theorem S5.push {W0 w w' : World} {v : Value} {B base : Nat} (h : (∀ kb ko, kb < W0.heap.size → ¬ v.ownBlock = some kb → ¬ kb = B → w.cell? ⟨kb, ko, none⟩ = W0.cell? ⟨kb, ko, none⟩) ∧ W0.heap.size ≤ w.heap.size ∧ Apart B base W0 w)
    (hg : w.grownBy w' v.ownBlock) (hv : ∀ k, v.ownBlock = some k → base ≤ k) (hBw : base ≤ w.heap.size) :
    (∀ kb ko, kb < W0.heap.size → ¬ v.ownBlock = some kb → ¬ kb = B → w'.cell? ⟨kb, ko, none⟩ = W0.cell? ⟨kb, ko, none⟩) ∧ W0.heap.size ≤ w'.heap.size ∧ Apart B base W0 w' :=
  ⟨fun kb ko h1 h2 h3 => (hg.cell_far ⟨kb, ko, none⟩ (Nat.lt_of_lt_of_le h1 h.2.1) (fun e => h2 e.symm)).trans (h.1 kb ko h1 h2 h3), Nat.le_trans h.2.1 hg.size, h.2.2.grown hg hBw hv⟩
theorem S5.store {W0 w : World} {v : Value} {B base : Nat} (h : (∀ kb ko, kb < W0.heap.size → ¬ v.ownBlock = some kb → ¬ kb = B → w.cell? ⟨kb, ko, none⟩ = W0.cell? ⟨kb, ko, none⟩) ∧ W0.heap.size ≤ w.heap.size ∧ Apart B base W0 w) (u : Value) :
    (∀ kb ko, kb < W0.heap.size → ¬ v.ownBlock = some kb → ¬ kb = B → (w.setCell ⟨B, 0, none⟩ u).cell? ⟨kb, ko, none⟩ = W0.cell? ⟨kb, ko, none⟩) ∧ W0.heap.size ≤ (w.setCell ⟨B, 0, none⟩ u).heap.size ∧ Apart B base W0 (w.setCell ⟨B, 0, none⟩ u) :=
  ⟨fun kb ko h1 h2 h3 => (World.cell?_of_block (Below.heap_setCell w ⟨B, 0, none⟩ u kb h3)).trans (h.1 kb ko h1 h2 h3), by simpa [World.setCell] using h.2.1, h.2.2.store u⟩
theorem InkOwn.upto2 {w : World} {lo hi hi' : Nat} {v : Value} {S : List St} (h : InkOwn w lo hi v S) (hh : hi ≤ hi') : InkOwn w lo hi' v S :=
  ⟨h.row, fun k hk => Nat.lt_of_lt_of_le (h.top k hk) hh, h.inner.mono hh, h.apt⟩
theorem bne_of {y s : ByteArray} {b : Bool} (h : (y.toList == s.toList) = b) : (y.toList == s.toList) = b := h
end Go.Proofs.YtmdmjnhebbhjbaaGreatDoor
