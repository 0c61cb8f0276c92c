/-
  Points: program and reference ask the same of a point; a point of the law becomes a point of the program. Lists of points in memory: a stroke of the law becomes a stroke of the program; it is compared, marked, and held. Points of one's own, marked with numbers in order, hold them; strokes likewise. Lists of points: the laws' comparison, size, marks. Inks in memory: a slice of strokes, each a slice of points; of one's own, with all rows apart. Inks of the law become inks of the program: made, sized, compared. A stroke is valid: program and reference ask the same.
-/
import Derived.Test.YtmdmjnhebbhjbaaSmall
import Derived.Test.YtmdmjnhebbhjbaaKda
import Derived.Test.YtmdmjnhebbhjbaaOpen
import Derived.Laws.OwnMore
namespace Go.Proofs.Ytmdmjnhebbhjbaa
set_option linter.unusedSimpArgs false
set_option linter.unusedVariables false
set_option maxRecDepth 20000
open Go.RowKit

structure Pt where
  x : Int
  y : Int
  t : Int
  deriving DecidableEq

def ptB (p : Pt) : Bool := inB p.x 0 4095 && inB p.y 0 4095 && inB p.t 0 3600000
theorem ptB_true {p : Pt} (h : ptB p = true) : (0 ≤ p.x ∧ p.x ≤ 4095) ∧ (0 ≤ p.y ∧ p.y ≤ 4095) ∧ 0 ≤ p.t ∧ p.t ≤ 3600000 := by
  simp only [ptB, Bool.and_eq_true] at h
  exact ⟨inB_true h.1.1, inB_true h.1.2, inB_true h.2⟩

/-- its numbers fit int64 -/
def Pt.wf (p : Pt) : Prop := (Lit.int .i64 p.x).wf = true ∧ (Lit.int .i64 p.y).wf = true ∧ (Lit.int .i64 p.t).wf = true

end Go.Proofs.Ytmdmjnhebbhjbaa
namespace Go.Proofs.Ytmdmjnhebbhjbaa
set_option linter.unusedSimpArgs false
set_option linter.unusedVariables false
set_option maxRecDepth 20000
open Go.RowKit
open Go.ChangeShapes Go.WideShapes Go.Deep Go.Joins

def ptC (p : Pt) : List Value := [.int .i64 p.x, .int .i64 p.y, .int .i64 p.t]
theorem ptC_len (p : Pt) : (ptC p).length = 3 := rfl
instance : Inhabited Pt := ⟨⟨0, 0, 0⟩⟩
theorem Rd.pt {w : World} {A : Option Addr} {n : Nat} {l : List Pt} (h : Rd w A n 3 (rowOf ptC l)) (hn : l.length = n) {k : Nat} (hk : k < l.length) :
    ∃ b off, A = some ⟨b, off, none⟩ ∧ b < w.heap.size ∧ w.cell? ⟨b, off + k * 3, none⟩ = some (.int .i64 l[k].x) ∧ w.cell? ⟨b, off + k * 3 + 1, none⟩ = some (.int .i64 l[k].y) ∧ w.cell? ⟨b, off + k * 3 + 2, none⟩ = some (.int .i64 l[k].t) := by
  obtain ⟨b, off, e, hlt, hc⟩ := h.at ptC_len hn hk
  exact ⟨b, off, e, hlt, hc 0 _ rfl, hc 1 _ rfl, hc 2 _ rfl⟩

/-- a row of one's own reads as a list -/
theorem Rd.own {w : World} {base t size n : Nat} {v : Value} {xs : List Value} (h : w.ownsRow base t size v n xs) : ∃ A c, v = .slice A n c ∧ n ≤ c ∧ c ≤ 9223372036854775807 ∧ Rd w A n size xs := by
  rcases h.2 with ⟨rfl, h0⟩ | ⟨g, cap, cur, rfl, _, hg, hc, hm, hs, htk⟩
  · subst h0
    exact ⟨none, 0, rfl, Nat.le_refl _, by omega, h.1, fun hn => absurd hn (by omega)⟩
  · refine ⟨_, _, rfl, hc, by unfold maxLen at hm; omega, h.1, fun _ => ⟨g, 0, rfl, (Array.getElem?_eq_some_iff.1 hg).1, fun j u hu => ?_⟩⟩
    rw [Nat.zero_add, cell_of_row w g j cur t (0, 0) hg]
    rw [← htk, List.getElem?_take] at hu
    split at hu
    · simpa using hu
    · cases hu
theorem Bk.owns {w : World} {g base t size n : Nat} {xs : List Value} (h : Bk w g t xs.toArray) (hl : xs.length = n * size) (hm : n ≤ maxLen) (hb : base ≤ g) : w.ownsRow base t size (.slice (some ⟨g, 0, none⟩) n n) n xs :=
  ⟨hl, .inr ⟨g, n, xs.toArray, rfl, hb, h, Nat.le_refl _, hm, by simpa using hl, List.take_of_length_le (by simp [hl])⟩⟩
theorem own_below2 {w w' : World} {base t size n : Nat} {v : Value} {xs : List Value} (h : w.ownsRow base t size v n xs) {B : Nat} (hb : Below B w w') (hB : ∀ k, v.ownBlock = some k → k < B) : w'.ownsRow base t size v n xs := by
  refine ⟨h.1, ?_⟩
  rcases h.2 with ⟨rfl, h0⟩ | ⟨g, cap, cur, rfl, hg, hg2, rest⟩
  · exact .inl ⟨rfl, h0⟩
  · exact .inr ⟨g, cap, cur, rfl, hg, (hb.block g (hB g rfl)).trans hg2, rest⟩
theorem own_next {w w' : World} {base t size n : Nat} {v : Value} {xs : List Value} (h : w.ownsRow base t size v n xs) (hb : Below w.heap.size w w') : w'.ownsRow base t size v n xs := own_below2 h hb (fun k hk => (h.lt k hk).2)

theorem Bk.other {w : World} {g : Nat} {t : TypeId} {cs : Array Value} (h : Bk w g t cs) {a : Addr} (ha : g ≠ a.block) (u : Value) : Bk (w.setCell a u) g t cs := (Below.heap_setCell w a u g ha).trans h

end Go.Proofs.Ytmdmjnhebbhjbaa
namespace Go.Proofs.Ytmdmjnhebbhjbaa
set_option linter.unusedSimpArgs false
set_option linter.unusedVariables false
set_option maxRecDepth 20000
open Go.RowKit
open Go.ChangeShapes Go.WideShapes Go.Deep Go.Joins

/-- n points that hold the numbers from k on -/
def marksP (k n : Nat) : List Pt := (List.range n).map fun j => ⟨((k + 3 * j : Nat) : Int), ((k + 3 * j + 1 : Nat) : Int), ((k + 3 * j + 2 : Nat) : Int)⟩
theorem marksP_len (k n : Nat) : (marksP k n).length = n := by simp [marksP]
theorem marksP_at (k n j : Nat) (h : j < (marksP k n).length) : (marksP k n)[j] = ⟨((k + 3 * j : Nat) : Int), ((k + 3 * j + 1 : Nat) : Int), ((k + 3 * j + 2 : Nat) : Int)⟩ := by simp [marksP]

end Go.Proofs.Ytmdmjnhebbhjbaa
namespace Go.Proofs.Ytmdmjnhebbhjbaa
set_option linter.unusedSimpArgs false
set_option linter.unusedVariables false
set_option maxRecDepth 20000
open Go.RowKit

open Go.ChangeShapes Go.WideShapes Go.Deep Go.Joins
/-- a stroke in memory or as an argument: where its points lie, what they are -/
structure St where
  A : Option Addr
  c : Nat
  l : List Pt
def St.good (w : World) (s : St) : Prop := s.l.length ≤ s.c ∧ s.c ≤ 9223372036854775807 ∧ Rd w s.A s.l.length 3 (rowOf ptC s.l)
end Go.Proofs.Ytmdmjnhebbhjbaa
namespace Go.Proofs.Ytmdmjnhebbhjbaa
set_option linter.unusedSimpArgs false
set_option linter.unusedVariables false
set_option maxRecDepth 20000
open Go.RowKit
open Go.ChangeShapes Go.WideShapes Go.Deep Go.Joins

def St.val (s : St) : Value := .slice s.A s.l.length s.c
def skC (s : St) : List Value := [s.val]
theorem skC_len (s : St) : (skC s).length = 1 := rfl
instance : Inhabited St := ⟨⟨none, 0, []⟩⟩
/-- the points -/
def ptsOf (S : List St) : List (List Pt) := S.map (·.l)

/-- an ink that reads so -/
structure InkRd (w : World) (A : Option Addr) (n : Nat) (S : List St) : Prop where
  len : S.length = n
  row : Rd w A n 1 (rowOf skC S)
  pts : ∀ s ∈ S, Rd w s.A s.l.length 3 (rowOf ptC s.l)
theorem InkRd.below {w w' : World} {A : Option Addr} {n : Nat} {S : List St} (h : InkRd w A n S) (hb : Below w.heap.size w w') : InkRd w' A n S :=
  ⟨h.len, h.row.below hb, fun s hs => (h.pts s hs).below hb⟩
theorem InkRd.alloc {w : World} {A : Option Addr} {n : Nat} {S : List St} (h : InkRd w A n S) (o : Obj) : InkRd (w.alloc o) A n S := h.below ((Below.refl _ _).alloc (Nat.le_refl _) o)
theorem InkRd.drew {w : World} {A : Option Addr} {n : Nat} {S : List St} (h : InkRd w A n S) : InkRd w.drew A n S := ⟨h.len, h.row, h.pts⟩
/-- stroke k: its header's cell, its points -/
theorem InkRd.at {w : World} {A : Option Addr} {n : Nat} {S : List St} (h : InkRd w A n S) {k : Nat} (hk : k < S.length) :
    ∃ b off, A = some ⟨b, off, none⟩ ∧ b < w.heap.size ∧ w.cell? ⟨b, off + k, none⟩ = some (.slice S[k].A S[k].l.length S[k].c) ∧ Rd w S[k].A S[k].l.length 3 (rowOf ptC S[k].l) := by
  obtain ⟨b, off, e, hlt, hc⟩ := h.row.at skC_len h.len hk
  exact ⟨b, off, e, hlt, by simpa [St.val] using hc 0 _ rfl, h.pts _ (List.getElem_mem hk)⟩

/-- rows apart: no two strokes lie in one block -/
def Apt (s t : St) : Prop := ∀ k, s.val.ownBlock = some k → t.val.ownBlock ≠ some k
/-- blocks from lo to hi alone have changed -/
structure Chg (lo hi : Nat) (w w' : World) : Prop where
  os : w'.os = w.os
  tape : w'.tape = w.tape
  output : w'.output = w.output
  size : w.heap.size ≤ w'.heap.size
  block : ∀ k, k < w.heap.size → (k < lo ∨ hi ≤ k) → w'.heap[k]? = w.heap[k]?
theorem Chg.refl (lo hi : Nat) (w : World) : Chg lo hi w w := ⟨rfl, rfl, rfl, Nat.le_refl _, fun _ _ _ => rfl⟩
theorem Chg.trans {lo hi : Nat} {a b c : World} (h : Chg lo hi a b) (k : Chg lo hi b c) : Chg lo hi a c :=
  ⟨k.os.trans h.os, k.tape.trans h.tape, k.output.trans h.output, Nat.le_trans h.size k.size, fun i hi hn => (k.block i (Nat.lt_of_lt_of_le hi h.size) hn).trans (h.block i hi hn)⟩
theorem Chg.of_grown {lo hi : Nat} {w w' : World} {v : Value} (h : w.grownBy w' v.ownBlock) (hlo : ∀ k, v.ownBlock = some k → lo ≤ k ∧ k < hi) : Chg lo hi w w' :=
  ⟨h.os, h.tape, h.output, h.size, fun k hk hn => h.block k hk (fun e => by have := hlo k e.symm; omega)⟩
theorem Chg.of_below {lo hi : Nat} {w w' : World} (h : Below w.heap.size w w') : Chg lo hi w w' := ⟨h.os, h.tape, h.output, h.size, fun k hk _ => h.block k hk⟩
theorem Chg.below {lo hi : Nat} {w w' : World} (h : Chg lo hi w w') (hl : lo ≤ w.heap.size) : Below lo w w' := ⟨h.os, h.tape, h.output, h.size, fun k hk => h.block k (by omega) (.inl hk)⟩
theorem Chg.cell {lo hi : Nat} {w w' : World} (h : Chg lo hi w w') {b : Nat} (o : Nat) (hb : b < w.heap.size) (hn : b < lo ∨ hi ≤ b) : w'.cell? ⟨b, o, none⟩ = w.cell? ⟨b, o, none⟩ := World.cell?_of_block (h.block b hb hn)
end Go.Proofs.Ytmdmjnhebbhjbaa
namespace Go.Proofs.Ytmdmjnhebbhjbaa
set_option linter.unusedSimpArgs false
set_option linter.unusedVariables false
set_option maxRecDepth 20000
open Go.RowKit
open Go.ChangeShapes Go.WideShapes Go.Deep Go.Joins

/-- the points of the first k strokes -/
def sumL (S : List St) : Nat → Nat
  | 0 => 0
  | k + 1 => sumL S k + (S.getD k default).l.length
theorem sumL_next {S : List St} {k : Nat} (h : k < S.length) : sumL S (k + 1) = sumL S k + S[k].l.length := by rw [sumL]; simp [List.getD_eq_getElem?_getD, List.getElem?_eq_getElem h]
theorem sumL_mono (S : List St) {j k : Nat} (h : j ≤ k) : sumL S j ≤ sumL S k := by
  induction k with
  | zero => obtain rfl : j = 0 := by omega
            exact Nat.le_refl _
  | succ k ih =>
    rcases Nat.lt_or_ge k j with h1 | h1
    · obtain rfl : j = k + 1 := by omega
      exact Nat.le_refl _
    · have := ih h1
      rw [sumL]; omega
theorem sumL_at {S : List St} {k : Nat} (h : k < S.length) : S[k].l.length ≤ sumL S S.length := by
  have h1 := sumL_mono S (show k + 1 ≤ S.length from h)
  rw [sumL_next h] at h1
  omega
/-- it fits -/
def fitK (S : List St) (left : Nat) : Prop := S.length + sumL S S.length ≤ left
theorem ptsOf_len (S : List St) : (ptsOf S).length = S.length := by simp [ptsOf]
theorem ptsOf_at {S T : List St} (h : ptsOf S = ptsOf T) {k : Nat} (hk : k < S.length) (hk2 : k < T.length) : T[k].l = S[k].l := by
  have h1 : (ptsOf S)[k]? = (ptsOf T)[k]? := by rw [h]
  simp only [ptsOf, List.getElem?_map, List.getElem?_eq_getElem hk, List.getElem?_eq_getElem hk2, Option.map_some, Option.some.injEq] at h1
  exact h1.symm

end Go.Proofs.Ytmdmjnhebbhjbaa
namespace Go.Proofs.Ytmdmjnhebbhjbaa
set_option linter.unusedSimpArgs false
set_option linter.unusedVariables false
set_option maxRecDepth 20000
open Go.RowKit

/-- every point is one that may be, and times go up -/
def okAll (l : List Pt) : Bool := decide (∀ j : Fin l.length, ptB l[j.1] = true ∧ (0 < j.1 → (l[j.1 - 1]'(by omega)).t < l[j.1].t))
def strB (l : List Pt) : Bool := okAll l && (decide (1 ≤ l.length) && decide (l.length ≤ 60))
def okTo (l : List Pt) (k : Nat) : Prop := ∀ (j : Nat) (h : j < l.length), j < k → ptB l[j] = true ∧ (0 < j → (l[j - 1]'(by omega)).t < l[j].t)
theorem okAll_true {l : List Pt} {k : Nat} (h : okTo l k) (hk : l.length ≤ k) : okAll l = true := decide_eq_true fun j => h j.1 j.2 (Nat.lt_of_lt_of_le j.2 hk)
theorem okAll_pt {l : List Pt} {k : Nat} (hk : k < l.length) (h : ptB l[k] = false) : okAll l = false := decide_eq_false fun H => by
  have := (H ⟨k, hk⟩).1
  simp [h] at this
theorem okAll_t {l : List Pt} {k : Nat} (hk : k < l.length) (h0 : 0 < k) (h : ¬ (l[k - 1]'(by omega)).t < l[k].t) : okAll l = false := decide_eq_false fun H => h ((H ⟨k, hk⟩).2 h0)
theorem okTo_next {l : List Pt} {k : Nat} (h : okTo l k) (hk : k < l.length) (h1 : ptB l[k] = true) (h2 : 0 < k → (l[k - 1]'(by omega)).t < l[k].t) : okTo l (k + 1) := fun j hj hlt => by
  rcases Nat.lt_or_ge j k with hjk | hjk
  · exact h j hj hjk
  · obtain rfl : j = k := by omega
    exact ⟨h1, h2⟩
theorem strB_true {l : List Pt} (h : strB l = true) : 1 ≤ l.length ∧ l.length ≤ 60 ∧ (∀ (j : Nat) (hj : j < l.length), ptB l[j] = true) ∧ (∀ (j : Nat) (hj : j < l.length), 0 < j → (l[j - 1]'(by omega)).t < l[j].t) := by
  simp only [strB, okAll, Bool.and_eq_true, decide_eq_true_eq] at h
  exact ⟨h.2.1, h.2.2, fun j hj => (h.1 ⟨j, hj⟩).1, fun j hj h0 => (h.1 ⟨j, hj⟩).2 h0⟩

theorem block_lt_of_cell {w : World} {b o : Nat} {v : Value} (h : w.cell? ⟨b, o, none⟩ = some v) : b < w.heap.size := World.block_lt_of_cell? w _ h
theorem strB_no {l : List Pt} (h : okAll l = false) : false = strB l := by rw [strB, h, Bool.false_and]
theorem strB_len {l : List Pt} {n : Nat} (h : okAll l = true) (hl : l.length = n) : (decide (1 ≤ n) && decide (n ≤ 60)) = strB l := by rw [strB, h, Bool.true_and, hl]
theorem Own.chg {α : Type} {f : α → List Value} {E : TypeId} {size : Nat} {w w' : World} {base lo hi lo' hi' : Nat} {v : Value} {l : List α} (h : Own f E size w base v l) (hb : ∀ k, v.ownBlock = some k → lo' ≤ k ∧ k < hi') (hc : Chg lo hi w w') (hd : hi ≤ lo' ∨ hi' ≤ lo) : Own f E size w' base v l :=
  h.of_block fun k hk => hc.block k (h.lt k hk).2 (by have := hb k hk; omega)
end Go.Proofs.Ytmdmjnhebbhjbaa
