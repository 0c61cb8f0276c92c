/-
  Slices in memory: a slice that reads as a list, nil let in. Slices of one's own: a list that grows by append, of any elements; what an append leaves as it was. Integers of one's own, marked with numbers in order, hold them; two lists that read alike are equal by the law's comparison. A variable of one cell beside a row of one's own: what a region that appends to it leaves. Values that reach others in memory: slices of slices, read deep, of one's own, apart. Nested slices of one's own are marked with numbers in order, and asked whether they hold the marks. A whole list appended to a row of one's own.
-/
import Derived.Test.YtinlhigpmchiaaaGreatDoorBase
import Derived.Deep.OwnRows
import Derived.Maps.AppendAt
import Derived.Laws.MakeOwn
import Derived.Deep.AppendLies
import Derived.Laws.OwnMore
namespace Go.Proofs.YtinlhigpmchiaaaGreatDoor
set_option linter.unusedSimpArgs false
set_option linter.unusedVariables false
set_option maxRecDepth 20000
open Go.RowKit

/-- The slice value '.slice A n _' reads as these cells ('size' of them an element). -/
def Rd (w : World) (A : Option Addr) (n size : Nat) (xs : List Value) : Prop :=
  xs.length = n * size ∧ (0 < n → ∃ b off, A = some ⟨b, off, none⟩ ∧ b < w.heap.size ∧ ∀ j u, xs[j]? = some u → w.cell? ⟨b, off + j, none⟩ = some u)
theorem Rd.below {w w' : World} {A : Option Addr} {n size : Nat} {xs : List Value} (h : Rd w A n size xs) (hb : Below w.heap.size w w') : Rd w' A n size xs :=
  ⟨h.1, fun hn => by
    obtain ⟨b, off, e, hlt, hc⟩ := h.2 hn
    exact ⟨b, off, e, Nat.lt_of_lt_of_le hlt hb.size, fun j u hu => (hb.cell (p := ⟨b, off + j, none⟩) hlt).trans (hc j u hu)⟩⟩
theorem Rd.drew {w : World} {A : Option Addr} {n size : Nat} {xs : List Value} (h : Rd w A n size xs) : Rd w.drew A n size xs := h
theorem Rd.alloc {w : World} {A : Option Addr} {n size : Nat} {xs : List Value} (h : Rd w A n size xs) (o : Obj) : Rd (w.alloc o) A n size xs := h.below ((Below.refl _ _).alloc (Nat.le_refl _) o)
theorem Rd.nil (w : World) (A : Option Addr) (size : Nat) : Rd w A 0 size [] := ⟨by simp, fun h => absurd h (by omega)⟩

/-- the cells of a list of structs -/
def rowOf {α : Type} (f : α → List Value) (l : List α) : List Value := l.flatMap f
theorem rowOf_append {α : Type} (f : α → List Value) (l m : List α) : rowOf f (l ++ m) = rowOf f l ++ rowOf f m := by simp [rowOf]
theorem rowOf_length {α : Type} {f : α → List Value} {size : Nat} (hf : ∀ a, (f a).length = size) (l : List α) : (rowOf f l).length = l.length * size := by
  induction l with
  | nil => simp [rowOf]
  | cons a l ih =>
    have e : rowOf f (a :: l) = f a ++ rowOf f l := rfl
    rw [e, List.length_append, ih, hf, List.length_cons, Nat.add_mul]
    omega
theorem rowOf_at {α : Type} {f : α → List Value} {size : Nat} (hf : ∀ a, (f a).length = size) : ∀ (l : List α) (k : Nat) (h : k < l.length) (i : Nat), i < size → (rowOf f l)[k * size + i]? = (f l[k])[i]?
  | a :: l, 0, h, i, hi => by
    have e : rowOf f (a :: l) = f a ++ rowOf f l := rfl
    rw [e, Nat.zero_mul, Nat.zero_add, List.getElem?_append_left (by rw [hf]; exact hi)]
    rfl
  | a :: l, k + 1, h, i, hi => by
    have e : rowOf f (a :: l) = f a ++ rowOf f l := rfl
    have h' : k < l.length := by simpa using h
    have ih := rowOf_at hf l k h' i hi
    rw [e, List.getElem?_append_right (by rw [hf, Nat.add_mul]; omega), hf]
    have e2 : (k + 1) * size + i - size = k * size + i := by rw [Nat.add_mul]; omega
    rw [e2, ih]
    rfl
/-- the cells of element k -/
theorem Rd.at {α : Type} {f : α → List Value} {size : Nat} (hf : ∀ a, (f a).length = size) {w : World} {A : Option Addr} {n : Nat} {l : List α} (h : Rd w A n size (rowOf f l)) (hn : l.length = n) {k : Nat} (hk : k < l.length) :
    ∃ b off, A = some ⟨b, off, none⟩ ∧ b < w.heap.size ∧ ∀ i u, (f l[k])[i]? = some u → w.cell? ⟨b, off + (k * size + i), none⟩ = some u := by
  obtain ⟨b, off, e, hlt, hc⟩ := h.2 (by omega)
  refine ⟨b, off, e, hlt, fun i u hu => hc _ u ?_⟩
  have hi : i < size := by rw [← hf l[k]]; exact (List.getElem?_eq_some_iff.1 hu).1
  rw [rowOf_at hf l k hk i hi]
  exact hu

/-- block g is just these cells of type t, none frozen -/
def Bk (w : World) (g : Nat) (t : TypeId) (cs : Array Value) : Prop := w.heap[g]? = some (.cells cs t (0, 0))
section
variable {w w' : World} {g : Nat} {t : TypeId} {cs : Array Value}
theorem Bk.lt (h : Bk w g t cs) : g < w.heap.size := (Array.getElem?_eq_some_iff.1 h).1
theorem Bk.cell (h : Bk w g t cs) (i : Nat) : w.cell? ⟨g, i, none⟩ = cs[i]? := cell_of_row w g i cs t (0, 0) h
theorem Bk.frozen (h : Bk w g t cs) (i : Nat) : w.frozen? ⟨g, i, none⟩ = false := by
  unfold Bk at h
  simp [World.frozen?, h]
theorem Bk.put (h : Bk w g t cs) (i : Nat) (u : Value) : Bk (w.setCell ⟨g, i, none⟩ u) g t (cs.setIfInBounds i u) := by
  unfold Bk at h ⊢
  simp [World.setCell, Array.getElem?_modify, h]
theorem Bk.below {B : Nat} (h : Bk w g t cs) (hb : Below B w w') (hg : g < B) : Bk w' g t cs := (hb.block g hg).trans h
theorem Bk.rd {n size : Nat} {xs : List Value} (h : Bk w g t xs.toArray) (hl : xs.length = n * size) : Rd w (some ⟨g, 0, none⟩) n size xs :=
  ⟨hl, fun _ => ⟨g, 0, rfl, h.lt, fun j u hu => by rw [Nat.zero_add, h.cell]; simpa using hu⟩⟩
end

theorem Bk.new (w : World) (cs : Array Value) (t : TypeId) : Bk (w.alloc (.cells cs t)) w.heap.size t cs := heap_alloc_new w _
theorem Bk.new1 (w : World) (o : Obj) (cs : Array Value) (t : TypeId) : Bk ((w.alloc o).alloc (.cells cs t)) (w.heap.size + 1) t cs := by
  have := Bk.new (w.alloc o) cs t
  simpa using this
theorem Bk.new2 (w : World) (o o' : Obj) (cs : Array Value) (t : TypeId) : Bk (((w.alloc o).alloc o').alloc (.cells cs t)) (w.heap.size + 1 + 1) t cs := by
  have := Bk.new ((w.alloc o).alloc o') cs t
  simpa using this
/-- a row that is filled from its head: the first k elements stand -/
def Filled {α : Type} (f : α → List Value) (C : Array Value) (l : List α) (k : Nat) : Prop := ∀ (j : Nat) (u : Value), (rowOf f (l.take k))[j]? = some u → C[j]? = some u
theorem Filled.done {α : Type} {f : α → List Value} {size : Nat} (hf : ∀ a, (f a).length = size) {C : Array Value} {l : List α} {k : Nat} (h : Filled f C l k) (hk : l.length ≤ k) (hC : C.size = l.length * size) : C = (rowOf f l).toArray := by
  unfold Filled at h
  rw [List.take_of_length_le hk] at h
  apply Array.ext
  · simp [rowOf_length hf, hC]
  · intro i h1 h2
    have h3 : i < (rowOf f l).length := by simpa using h2
    have := h i _ (List.getElem?_eq_getElem h3)
    rw [Array.getElem?_eq_getElem h1] at this
    injection this with this
theorem Filled.zero {α : Type} (f : α → List Value) (C : Array Value) (l : List α) : Filled f C l 0 := fun j u h => by simp [rowOf] at h
/-- element k stored: the cells before it as they were, its own as they should be -/
theorem Filled.next {α : Type} {f : α → List Value} {size : Nat} (hf : ∀ a, (f a).length = size) {C C' : Array Value} {l : List α} {k : Nat} (h : Filled f C l k) (hk : k < l.length)
    (hold : ∀ j : Nat, j < k * size → C'[j]? = C[j]?) (hnew : ∀ (i : Nat) (u : Value), (f l[k])[i]? = some u → C'[k * size + i]? = some u) : Filled f C' l (k + 1) := by
  intro j u hu
  have hlen : (rowOf f (l.take k)).length = k * size := by rw [rowOf_length hf, List.length_take, Nat.min_eq_left (by omega)]
  rw [List.take_succ_eq_append_getElem hk, rowOf_append] at hu
  rcases Nat.lt_or_ge j (k * size) with hj | hj
  · rw [List.getElem?_append_left (by omega)] at hu
    rw [hold j hj]
    exact h j u hu
  · rw [List.getElem?_append_right (by omega), hlen] at hu
    have e : rowOf f [l[k]] = f l[k] := by simp [rowOf]
    rw [e] at hu
    have := hnew _ u hu
    rwa [show k * size + (j - k * size) = j by omega] at this
/-- two cells stored / three cells stored -/
theorem Filled.put2 {α : Type} {f : α → List Value} {C : Array Value} {l : List α} {k : Nat} {u v : Value} (hf : ∀ a, (f a).length = 2) (h : Filled f C l k) (hk : k < l.length) (hC : C.size = l.length * 2) (e : f l[k] = [u, v]) :
    Filled f ((C.setIfInBounds (k * 2) u).setIfInBounds (k * 2 + 1) v) l (k + 1) := by
  refine h.next hf hk (fun j hj => ?_) (fun i x hx => ?_)
  · rw [Array.getElem?_setIfInBounds_ne (by omega), Array.getElem?_setIfInBounds_ne (by omega)]
  · rw [e] at hx
    rcases i with _ | _ | i
    · rw [Array.getElem?_setIfInBounds_ne (by omega), Nat.add_zero, Array.getElem?_setIfInBounds_self_of_lt (by omega)]
      simpa using hx
    · rw [Array.getElem?_setIfInBounds_self_of_lt (by simp; omega)]
      simpa using hx
    · simp at hx
theorem Filled.put3 {α : Type} {f : α → List Value} {C : Array Value} {l : List α} {k : Nat} {u v z : Value} (hf : ∀ a, (f a).length = 3) (h : Filled f C l k) (hk : k < l.length) (hC : C.size = l.length * 3) (e : f l[k] = [u, v, z]) :
    Filled f (((C.setIfInBounds (k * 3) u).setIfInBounds (k * 3 + 1) v).setIfInBounds (k * 3 + 2) z) l (k + 1) := by
  refine h.next hf hk (fun j hj => ?_) (fun i x hx => ?_)
  · rw [Array.getElem?_setIfInBounds_ne (by omega), Array.getElem?_setIfInBounds_ne (by omega), Array.getElem?_setIfInBounds_ne (by omega)]
  · rw [e] at hx
    rcases i with _ | _ | _ | i
    · rw [Array.getElem?_setIfInBounds_ne (by omega), Array.getElem?_setIfInBounds_ne (by omega), Nat.add_zero, Array.getElem?_setIfInBounds_self_of_lt (by omega)]
      simpa using hx
    · rw [Array.getElem?_setIfInBounds_ne (by omega), Array.getElem?_setIfInBounds_self_of_lt (by simp; omega)]
      simpa using hx
    · rw [Array.getElem?_setIfInBounds_self_of_lt (by simp; omega)]
      simpa using hx
    · simp at hx
theorem Filled.put1 {α : Type} {f : α → List Value} {C : Array Value} {l : List α} {k : Nat} {u : Value} (hf : ∀ a, (f a).length = 1) (h : Filled f C l k) (hk : k < l.length) (hC : C.size = l.length * 1) (e : f l[k] = [u]) :
    Filled f (C.setIfInBounds (k * 1) u) l (k + 1) := by
  refine h.next hf hk (fun j hj => ?_) (fun i x hx => ?_)
  · rw [Array.getElem?_setIfInBounds_ne (by omega)]
  · rw [e] at hx
    rcases i with _ | i
    · rw [Nat.add_zero, Array.getElem?_setIfInBounds_self_of_lt (by omega)]
      simpa using hx
    · simp at hx

/-- make([]T, n), an element of any number of cells -/
theorem make_rows {P : Program} (t e : TypeId) (i : TypeInfo) (z : Value) (ht : P.underlying t = some (.slice e)) (hi : P.info? e = some i) (hz : i.zero = some z)
    (kl kc : IntKind) (n : Nat) (hbytes : i.bytes * n ≤ 281474976710656) (h63 : n ≤ 9223372036854775807) (w : World) :
    (Instr.makeSlice t (.int kl (n : Int)) (.int kc (n : Int))).run P w = .ok (.slice (some ⟨w.heap.size, 0, none⟩) n n) (w.alloc (.cells (madeCells z.cells (n * i.size)) e)) := by
  have hb : (i.bytes : Int) * (n : Int) ≤ 281474976710656 := by
    have h : ((i.bytes * n : Nat) : Int) ≤ 281474976710656 := by omega
    rwa [Int.natCast_mul] at h
  have hr := run_make (P := P) w t e i z ht hi hz kl kc n n (by omega) (by omega) hb (by omega)
  simp only [Int.toNat_natCast] at hr
  exact hr

section
variable {P : Program} {ops : Array Oper} {Q : Exit → Act → World → Prop} {md : Region.Mode} {S : World → Prop}
/-- one operation of a region that draws its order, taken: it is wanted and yields v / it is not wanted -/
theorem take_on {i : Nat} {oi : Oper} {v : Value} {fuel : Nat} {listed : Array Bool} {a : Act} {w : World} (hi : ops.toList[i]? = some oi)
    (hs : Region.noSelect ops = true) (hf : Region.free md ops listed i = true) (hr : (Region.ready md ops listed).contains i = true)
    (hQ : ∀ c a w, Q (.panic c) (a.put oi.dst v) w → Q (.panic c) a w) (hw : Region.wanted oi (yielded ops a.tmps) = true) (hy : ∀ w, S w → (execOp a.eval oi).run P w = .ok (.value v) w) (hS : S w)
    (h : wpAnyH P md ops Q S fuel (listed.setIfInBounds i true) (a.put oi.dst v) w) : wpAnyH P md ops Q S (fuel + 1) listed a w :=
  wpAnyH_take (by simpa using hi) hs hf hr hQ (.inl ⟨hw, hy⟩) hS h
theorem take_off {i : Nat} {oi : Oper} {fuel : Nat} {listed : Array Bool} {a : Act} {w : World} (hi : ops.toList[i]? = some oi)
    (hs : Region.noSelect ops = true) (hf : Region.free md ops listed i = true) (hr : (Region.ready md ops listed).contains i = true)
    (hQ : ∀ c a w, Q (.panic c) (a.put oi.dst undef) w → Q (.panic c) a w) (hw : Region.wanted oi (yielded ops a.tmps) = false) (hS : S w)
    (h : wpAnyH P md ops Q S fuel (listed.setIfInBounds i true) (a.put oi.dst undef) w) : wpAnyH P md ops Q S (fuel + 1) listed a w :=
  wpAnyH_take (by simpa using hi) hs hf hr hQ (.inr ⟨hw, rfl⟩) hS h
end

structure Sp where
  x : Int
  y : Int
  deriving DecidableEq
def spC (p : Sp) : List Value := [.int .i64 p.x, .int .i64 p.y]
theorem spC_len (p : Sp) : (spC p).length = 2 := rfl
theorem Rd.spot {w : World} {A : Option Addr} {n : Nat} {l : List Sp} (h : Rd w A n 2 (rowOf spC l)) (hn : l.length = n) {k : Nat} (hk : k < l.length) :
    ∃ b off, A = some ⟨b, off, none⟩ ∧ b < w.heap.size ∧ w.cell? ⟨b, off + k * 2, none⟩ = some (.int .i64 l[k].x) ∧ w.cell? ⟨b, off + k * 2 + 1, none⟩ = some (.int .i64 l[k].y) := by
  obtain ⟨b, off, e, hlt, hc⟩ := h.at spC_len hn hk
  exact ⟨b, off, e, hlt, hc 0 _ rfl, hc 1 _ rfl⟩
end Go.Proofs.YtinlhigpmchiaaaGreatDoor
namespace Go.Proofs.YtinlhigpmchiaaaGreatDoor
set_option linter.unusedSimpArgs false
set_option linter.unusedVariables false
set_option maxRecDepth 20000
open Go.RowKit
open Go.ChangeShapes Go.WideShapes Go.Deep Go.Joins

/-- elements: their cells, their type -/
structure Elem {α : Type} (f : α → List Value) (E : TypeId) (size bytes : Nat) : Prop where
  len : ∀ a, (f a).length = size
  one : ∀ a, ∀ u ∈ f a, u.oneCell' = true
  pos : 0 < size
  info : ∃ i z, Tryz.prog.info? E = some i ∧ i.zero = some z ∧ i.size = size ∧ i.bytes = bytes ∧ z.cells.size = size

/-- the slice v is one's own (nil, or at the head of a block from base on) and reads as the list -/
def Own {α : Type} (f : α → List Value) (E : TypeId) (size : Nat) (w : World) (base : Nat) (v : Value) (l : List α) : Prop := w.ownsRow base E size v l.length (rowOf f l)
section
variable {α : Type} {f : α → List Value} {E : TypeId} {size bytes : Nat} {w w' : World} {base : Nat} {v : Value} {l : List α}
theorem Own.nil (f : α → List Value) (E : TypeId) (size : Nat) (w : World) (base : Nat) : Own f E size w base (.slice none 0 0) [] := World.ownsRow_nil w base E size
theorem Own.lt (h : Own f E size w base v l) : ∀ k, v.ownBlock = some k → base ≤ k ∧ k < w.heap.size := World.ownsRow.lt h
theorem Own.rd (h : Own f E size w base v l) : ∃ A c, v = .slice A l.length c ∧ l.length ≤ c ∧ c ≤ 9223372036854775807 ∧ Rd w A l.length size (rowOf f l) := by
  rcases h.2 with ⟨rfl, h0⟩ | ⟨g, cap, cur, rfl, _, hg, hc, hm, hs, htk⟩
  · have hl : l = [] := List.eq_nil_of_length_eq_zero h0
    subst hl
    exact ⟨none, 0, rfl, Nat.le_refl _, by omega, Rd.nil _ _ _⟩
  · refine ⟨_, _, rfl, hc, by unfold maxLen at hm; omega, h.1, fun _ => ⟨g, 0, rfl, (Array.getElem?_eq_some_iff.1 hg).1, fun j u hu => ?_⟩⟩
    rw [Nat.zero_add, cell_of_row w g j cur E (0, 0) hg]
    rw [← htk, List.getElem?_take] at hu
    split at hu
    · simpa using hu
    · cases hu
/-- what is said of v's own block alone -/
theorem Own.of_block (h : Own f E size w base v l) (hb : ∀ k, v.ownBlock = some k → w'.heap[k]? = w.heap[k]?) : Own f E size w' base v l := by
  refine ⟨h.1, ?_⟩
  rcases h.2 with ⟨rfl, h0⟩ | ⟨g, cap, cur, rfl, hg, hg2, rest⟩
  · exact .inl ⟨rfl, h0⟩
  · exact .inr ⟨g, cap, cur, rfl, hg, (hb g rfl).trans hg2, rest⟩
theorem Own.below {B : Nat} (h : Own f E size w base v l) (hb : Below B w w') (hB : ∀ k, v.ownBlock = some k → k < B) : Own f E size w' base v l := h.of_block fun k hk => hb.block k (hB k hk)
theorem Own.next (h : Own f E size w base v l) (hb : Below w.heap.size w w') : Own f E size w' base v l := h.below hb fun k hk => (h.lt k hk).2
theorem Own.alloc (h : Own f E size w base v l) (o : Obj) : Own f E size (w.alloc o) base v l := World.ownsRow.alloc h o
theorem Own.drew (h : Own f E size w base v l) : Own f E size w.drew base v l := h
theorem Own.mono {b' : Nat} (h : Own f E size w base v l) (hb : b' ≤ base) : Own f E size w b' v l := by
  refine ⟨h.1, ?_⟩
  rcases h.2 with h2 | ⟨g, cap, cur, hv, hg, r⟩
  · exact .inl h2
  · exact .inr ⟨g, cap, cur, hv, by omega, r⟩
theorem Own.kept {row : Option Nat} (h : Own f E size w base v l) (hg : w.grownBy w' row) (hne : ∀ k, v.ownBlock = some k → some k ≠ row) : Own f E size w' base v l :=
  h.of_block fun k hk => hg.block k (h.lt k hk).2 (hne k hk)
/-- a row that the call has just laid whole -/
theorem Own.of_bk {g : Nat} (h : Bk w g E (rowOf f l).toArray) (hf : ∀ a, (f a).length = size) (hm : l.length ≤ maxLen) (hb : base ≤ g) : Own f E size w base (.slice (some ⟨g, 0, none⟩) l.length l.length) l := by
  have hl := rowOf_length hf l
  exact ⟨hl, .inr ⟨g, l.length, (rowOf f l).toArray, rfl, hb, h, Nat.le_refl _, hm, by simpa using hl, List.take_of_length_le (by simp [hl])⟩⟩
/-- the cells of element k -/
theorem Own.at (h : Own f E size w base v l) (hf : ∀ a, (f a).length = size) {k : Nat} (hk : k < l.length) :
    ∃ g c, v = .slice (some ⟨g, 0, none⟩) l.length c ∧ base ≤ g ∧ g < w.heap.size ∧ ∀ i u, (f l[k])[i]? = some u → w.cell? ⟨g, k * size + i, none⟩ = some u := by
  obtain ⟨g, c, hv, hb, hg⟩ := World.ownsRow.form h (by omega)
  obtain ⟨A, c', hv', _, _, hr⟩ := h.rd
  rw [hv] at hv'
  injection hv' with e1 e2 e3
  obtain ⟨b, off, e4, _, hc⟩ := hr.at hf rfl hk
  rw [e4] at e1
  injection e1 with e1
  injection e1 with e5 e6
  subst e5; subst e6
  exact ⟨g, c, hv, hb, hg, fun i u hu => by have := hc i u hu; rwa [Nat.zero_add] at this⟩
end

section
variable {P : Program} {w : World}
/-- an append leaves all old cells but those behind the old row's end -/
theorem append_keeps (t ty : TypeId) (base : Nat) (e : TypeId) (i : TypeInfo) (z : Value) (size bytes : Nat) (ht : P.underlying t = some (.slice e)) (hi : P.info? e = some i) (hz : i.zero = some z)
    (hsize : i.size = size) (hby : i.bytes = bytes) (v : Value) (n : Nat) (xs : List Value) (hown : w.ownsRow base e size v n xs)
    (ad : Addr) (m c : Nat) (news : List Value) (hl : news.length = m * size) (hnews : ∀ j u, news[j]? = some u → w.cell? (ad.add j) = some u) (h1 : ∀ u ∈ news, u.oneCell' = true)
    (h63 : n + m ≤ maxLen) (hbytes : (n + m) * bytes ≤ 140737488355328) {v' : Value} {w' : World}
    (hr : (Builtin.append_ #[t, t] ty #[v, .slice (some ad) m c]).run P w = .ok v' w') (hown' : w'.ownsRow base e size v' (n + m) (xs ++ news)) (hg : w.grownBy w' v.ownBlock) :
    ∀ b o, b < w.heap.size → (v.ownBlock = some b → o < n * size) → w'.cell? ⟨b, o, none⟩ = w.cell? ⟨b, o, none⟩ := by
  intro b o hb ho
  by_cases hvb : v.ownBlock = some b
  · replace ho := ho hvb; have ho' := ho
    subst hsize hby
    rcases hown.2 with ⟨rfl, rfl⟩ | ⟨g, cap, cur, rfl, hbg, hgg, hnc, hcm, hcs, htake⟩
    · simp [Value.ownBlock] at hvb
    · have hgb : g = b := by simpa [Value.ownBlock] using hvb
      subst hgb
      have hox : o < xs.length := by rw [hown.1]; exact ho'
      have hold := hown.cells (g := g) rfl o _ (List.getElem?_eq_getElem hox)
      have hadd : (⟨g, 0, none⟩ : Addr).add o = ⟨g, o, none⟩ := by unfold Addr.add; split <;> simp_all
      rw [hadd] at hold
      by_cases hroom : n + m ≤ cap
      · have hfit : n * i.size + news.length ≤ cur.size := by rw [hl, hcs, ← Nat.add_mul]; exact Nat.mul_le_mul_right _ hroom
        have hr2 := run_append_room (P := P) w t ty e i ht hi g n cap cur hgg ad m c news hl hnews h1 hroom hfit
        rw [hr] at hr2
        injection hr2 with hv2 hw2
        subst hv2
        have hnew := hown'.cells (g := g) rfl o xs[o] (by rw [List.getElem?_append_left hox]; exact List.getElem?_eq_getElem hox)
        rw [hadd] at hnew
        rw [hnew, hold]
      · have holds : ∀ j u, xs[j]? = some u → w.cell? ((⟨g, 0, none⟩ : Addr).add j) = some u := hown.cells (g := g) rfl
        have hsmall : n + m ≤ 9223372036854775807 := by simp only [maxLen] at h63; omega
        have hr2 := run_append_grow (P := P) w t ty e i z ht hi hz ⟨g, 0, none⟩ n cap xs hown.1 holds ad m c news hl hnews (by omega) (by omega) (growslice_fits (by omega) hbytes)
        rw [hr] at hr2
        injection hr2 with hv2 hw2
        subst hw2
        exact World.cell?_of_block (Below.heap_alloc w.drew _ g hb)
  · exact hg.cell_far ⟨b, o, none⟩ hb (fun e => hvb e.symm)
end

section
variable {α : Type} {f : α → List Value} {E : TypeId} {size bytes : Nat} {w : World}
/-- one element appended to a row of one's own -/
theorem run_push (he : Elem f E size bytes) (t ty : TypeId) (ht : Tryz.prog.underlying t = some (.slice E)) (base : Nat) (v : Value) (l : List α) (y : α) (hown : Own f E size w base v l) (n : Nat) (hln : l.length = n)
    (B c : Nat) (hB : ∀ j u, (f y)[j]? = some u → w.cell? ⟨B, j, none⟩ = some u) (h63 : n + 1 ≤ maxLen) (hbytes : (n + 1) * bytes ≤ 140737488355328) (hbase : base ≤ w.heap.size) :
    ∃ g cap w', (Builtin.append_ #[t, t] ty #[v, .slice (some ⟨B, 0, none⟩) 1 c]).run Tryz.prog w = .ok (.slice (some ⟨g, 0, none⟩) (n + 1) cap) w' ∧ Own f E size w' base (.slice (some ⟨g, 0, none⟩) (n + 1) cap) (l ++ [y]) ∧
      w.grownBy w' v.ownBlock ∧ (v.ownBlock = some g ∨ g = w.heap.size) ∧ g < w'.heap.size ∧ (∀ b o, b < w.heap.size → (v.ownBlock = some b → o < n * size) → w'.cell? ⟨b, o, none⟩ = w.cell? ⟨b, o, none⟩) := by
  obtain ⟨i, z, hi, hz, hsize, hby, hzs⟩ := he.info
  subst hln
  have hnews : ∀ j u, (f y)[j]? = some u → w.cell? ((⟨B, 0, none⟩ : Addr).add j) = some u := fun j u hu => by
    have hadd : (⟨B, 0, none⟩ : Addr).add j = ⟨B, j, none⟩ := by unfold Addr.add; split <;> simp_all
    rw [hadd]
    exact hB j u hu
  obtain ⟨g, cap, w', hr, h2, h3, h4, h5⟩ := run_append_lies (P := Tryz.prog) w t ty base E i z size bytes ht hi hz hsize hby hzs he.pos v l.length (rowOf f l) hown ⟨B, 0, none⟩ 1 c (f y) (by rw [he.len, Nat.one_mul]) hnews (he.one y) (by omega) h63 hbytes hbase _ rfl
  refine ⟨g, cap, w', hr, ?_, h3, h4, h5, append_keeps t ty base E i z size bytes ht hi hz hsize hby v l.length (rowOf f l) hown ⟨B, 0, none⟩ 1 c (f y) (by rw [he.len, Nat.one_mul]) hnews (he.one y) h63 hbytes hr h2 h3⟩
  have e : rowOf f (l ++ [y]) = rowOf f l ++ f y := by rw [rowOf_append]; simp [rowOf]
  unfold Own
  rw [e, List.length_append]
  exact h2

theorem wp_push (he : Elem f E size bytes) {o : Oper} {a : Act} {K : Act → World → Prop} {Q : Exit → Act → World → Prop} (s x : Operand) (t : TypeId)
    (ho : o.op = .call { callee := .builtin .append, args := #[s, x], argTypes := #[t, t] }) (ht : Tryz.prog.underlying t = some (.slice E)) (base : Nat) (v : Value) (l : List α) (y : α) (hs : a.eval s = v) (hown : Own f E size w base v l) (n : Nat) (hln : l.length = n)
    (B c : Nat) (hx : a.eval x = .slice (some ⟨B, 0, none⟩) 1 c) (hB : ∀ j u, (f y)[j]? = some u → w.cell? ⟨B, j, none⟩ = some u) (h63 : n + 1 ≤ maxLen) (hbytes : (n + 1) * bytes ≤ 140737488355328) (hbase : base ≤ w.heap.size)
    (h : ∀ g cap w', Own f E size w' base (.slice (some ⟨g, 0, none⟩) (n + 1) cap) (l ++ [y]) → w.grownBy w' v.ownBlock → (v.ownBlock = some g ∨ g = w.heap.size) → g < w'.heap.size →
      (∀ b o, b < w.heap.size → (v.ownBlock = some b → o < n * size) → w'.cell? ⟨b, o, none⟩ = w.cell? ⟨b, o, none⟩) → K (a.put o.dst (.slice (some ⟨g, 0, none⟩) (n + 1) cap)) w') : o.wp Tryz.prog a w K Q := by
  obtain ⟨g, cap, w', hr, h2, h3, h4, h5, h6⟩ := run_push he t o.type ht base v l y hown n hln B c hB h63 hbytes hbase
  unfold Oper.wp execOp
  simp only [ho, resolve, invoke, builtin, Sem.run_bind, Sem.run_pure, Result.andThen_ok, List.map_toArray, List.map_cons, List.map_nil, hs, hx, hr]
  exact h g cap w' h2 h3 h4 h5 h6

/-- in a plain region -/
theorem list_push (he : Elem f E size bytes) {ops : Array Oper} {rest : List Oper} {o : Oper} {a : Act} {Q : Exit → Act → World → Prop} (hgd : o.guard = none) (s x : Operand) (t : TypeId)
    (ho : o.op = .call { callee := .builtin .append, args := #[s, x], argTypes := #[t, t] }) (ht : Tryz.prog.underlying t = some (.slice E)) (base : Nat) (v : Value) (l : List α) (y : α) (hs : a.eval s = v) (hown : Own f E size w base v l) (n : Nat) (hln : l.length = n)
    (B c : Nat) (hx : a.eval x = .slice (some ⟨B, 0, none⟩) 1 c) (hB : ∀ j u, (f y)[j]? = some u → w.cell? ⟨B, j, none⟩ = some u) (h63 : n + 1 ≤ maxLen) (hbytes : (n + 1) * bytes ≤ 140737488355328) (hbase : base ≤ w.heap.size)
    (h : ∀ g cap w', Own f E size w' base (.slice (some ⟨g, 0, none⟩) (n + 1) cap) (l ++ [y]) → w.grownBy w' v.ownBlock → (v.ownBlock = some g ∨ g = w.heap.size) → g < w'.heap.size →
      (∀ b o, b < w.heap.size → (v.ownBlock = some b → o < n * size) → w'.cell? ⟨b, o, none⟩ = w.cell? ⟨b, o, none⟩) → wpList Tryz.prog ops Q rest (a.put o.dst (.slice (some ⟨g, 0, none⟩) (n + 1) cap)) w') : wpList Tryz.prog ops Q (o :: rest) a w :=
  wpList_plain hgd fun _ hK => wp_push he s x t ho ht base v l y hs hown n hln B c hx hB h63 hbytes hbase fun g cap w' h2 h3 h4 h5 h6 => hK _ _ (h g cap w' h2 h3 h4 h5 h6)

/-- at a step of a region that draws its order -/
theorem step_push (he : Elem f E size bytes) {ops : Array Oper} {o : Oper} {a : Act} {K : Act → World → Prop} {Q : Exit → Act → World → Prop} {F : Prop} (hgd : o.guard = none) (s x : Operand) (t : TypeId)
    (ho : o.op = .call { callee := .builtin .append, args := #[s, x], argTypes := #[t, t] }) (ht : Tryz.prog.underlying t = some (.slice E)) (base : Nat) (v : Value) (l : List α) (y : α) (hs : a.eval s = v) (hown : Own f E size w base v l) (n : Nat) (hln : l.length = n)
    (B c : Nat) (hx : a.eval x = .slice (some ⟨B, 0, none⟩) 1 c) (hB : ∀ j u, (f y)[j]? = some u → w.cell? ⟨B, j, none⟩ = some u) (h63 : n + 1 ≤ maxLen) (hbytes : (n + 1) * bytes ≤ 140737488355328) (hbase : base ≤ w.heap.size)
    (h : ∀ g cap w', Own f E size w' base (.slice (some ⟨g, 0, none⟩) (n + 1) cap) (l ++ [y]) → w.grownBy w' v.ownBlock → (v.ownBlock = some g ∨ g = w.heap.size) → g < w'.heap.size →
      (∀ b o, b < w.heap.size → (v.ownBlock = some b → o < n * size) → w'.cell? ⟨b, o, none⟩ = w.cell? ⟨b, o, none⟩) → K (a.put o.dst (.slice (some ⟨g, 0, none⟩) (n + 1) cap)) w') :
    if Region.wanted o (yielded ops a.tmps) = true then Oper.wp Tryz.prog o a w K Q else F := by
  have hw : Region.wanted o (yielded ops a.tmps) = true := by simp [Region.wanted, hgd]
  rw [if_pos hw]
  exact wp_push he s x t ho ht base v l y hs hown n hln B c hx hB h63 hbytes hbase h
end

/-- integers -/
def iC (n : Int) : List Value := [.int .i64 n]
theorem elem_int : Elem iC 2 1 8 where
  len _ := rfl
  one a u hu := by simp [iC] at hu; subst hu; rfl
  pos := by omega
  info := by
    have h : (Tryz.prog.info? 2).map (fun i => (i.zero, i.size, i.bytes)) = some (some (.int .i64 0), 1, 8) := by kernel_rfl
    obtain ⟨i, h1, h2, h3, h4⟩ := info_parts h
    exact ⟨i, _, h1, h2, h3, h4, rfl⟩
theorem iC_len (n : Int) : (iC n).length = 1 := rfl

/-- the condition of a drawn region that reads a row of one's own (block g, the first k cells) and appends to it: below W0's end all reads as in W0, but for what lies behind the row's end -/
theorem SA.mk {W0 w' : World} {g k B : Nat} (h : Below W0.heap.size W0 w') (hB : B ≤ W0.heap.size) :
    (∀ kb ko, kb < W0.heap.size → (kb = g → ko < k) → w'.cell? ⟨kb, ko, none⟩ = W0.cell? ⟨kb, ko, none⟩) ∧ W0.heap.size ≤ w'.heap.size ∧ Below B W0 w' :=
  ⟨fun kb ko hk _ => h.cell (p := ⟨kb, ko, none⟩) hk, h.size, h.mono hB⟩
theorem SA.push {W0 w w' : World} {g k m B : Nat} {v : Value} (h : (∀ kb ko, kb < W0.heap.size → (kb = g → ko < k) → w.cell? ⟨kb, ko, none⟩ = W0.cell? ⟨kb, ko, none⟩) ∧ W0.heap.size ≤ w.heap.size ∧ Below B W0 w)
    (hv : v.ownBlock = some g) (hg : w.grownBy w' v.ownBlock) (hk : ∀ b o, b < w.heap.size → (v.ownBlock = some b → o < m) → w'.cell? ⟨b, o, none⟩ = w.cell? ⟨b, o, none⟩) (hkm : k ≤ m) (hBg : B ≤ g) (hBw : B ≤ w.heap.size) :
    (∀ kb ko, kb < W0.heap.size → (kb = g → ko < k) → w'.cell? ⟨kb, ko, none⟩ = W0.cell? ⟨kb, ko, none⟩) ∧ W0.heap.size ≤ w'.heap.size ∧ Below B W0 w' := by
  refine ⟨fun kb ko h1 h2 => ?_, Nat.le_trans h.2.1 hg.size, h.2.2.grown hg hBw (fun k hk => by rw [hv] at hk; injection hk with hk; omega)⟩
  rw [hk kb ko (Nat.lt_of_lt_of_le h1 h.2.1) (fun e => by rw [hv] at e; injection e with e; have := h2 e.symm; omega)]
  exact h.1 kb ko h1 h2
end Go.Proofs.YtinlhigpmchiaaaGreatDoor
namespace Go.Proofs.YtinlhigpmchiaaaGreatDoor
set_option linter.unusedSimpArgs false
set_option linter.unusedVariables false
set_option maxRecDepth 20000
open Go.RowKit
open Go.ChangeShapes Go.WideShapes Go.Deep Go.Joins

section
variable {α : Type} {f : α → List Value} {E : TypeId} {size : Nat} {w : World} {base : Nat} {v : Value} {l : List α}
theorem Own.cases (h : Own f E size w base v l) : (v = .slice none 0 0 ∧ l = []) ∨ ∃ g cap C, v = .slice (some ⟨g, 0, none⟩) l.length cap ∧ base ≤ g ∧ Bk w g E C ∧ l.length ≤ cap ∧ cap ≤ maxLen ∧ C.size = cap * size := by
  rcases h.2 with ⟨rfl, h0⟩ | ⟨g, cap, cur, rfl, hb, hg, hc, hm, hs, _⟩
  · exact .inl ⟨rfl, List.eq_nil_of_length_eq_zero h0⟩
  · exact .inr ⟨g, cap, cur, rfl, hb, hg, hc, hm, hs⟩
theorem Own.rdS {A : Option Addr} {n c : Nat} (h : Own f E size w base (.slice A n c) l) (hl : l.length = n) : Rd w A n size (rowOf f l) := by
  obtain ⟨A', c', hv, _, _, hr⟩ := h.rd
  injection hv with e1 e2 e3
  subst e1
  rw [← hl]
  exact hr
theorem Own.of_filled (hf : ∀ a, (f a).length = size) {g cap : Nat} {C : Array Value} (hb : Bk w g E C) (hC : C.size = cap * size) (hn : l.length ≤ cap) (hcap : cap ≤ maxLen) (hbase : base ≤ g) (hfill : Filled f C l l.length) :
    Own f E size w base (.slice (some ⟨g, 0, none⟩) l.length cap) l := by
  refine ⟨rowOf_length hf l, .inr ⟨g, cap, C, rfl, hbase, hb, hn, hcap, hC, ?_⟩⟩
  have hl := rowOf_length hf l
  have hle : l.length * size ≤ cap * size := Nat.mul_le_mul_right _ hn
  unfold Filled at hfill
  rw [List.take_of_length_le (Nat.le_refl _)] at hfill
  apply List.ext_getElem?
  intro j
  rw [List.getElem?_take]
  rcases Nat.lt_or_ge j (l.length * size) with hj | hj
  · have hjl : j < (rowOf f l).length := by rw [hl]; exact hj
    have h1 := hfill j _ (List.getElem?_eq_getElem hjl)
    rw [if_pos hj, List.getElem?_eq_getElem hjl]
    simpa using h1
  · rw [if_neg (by omega), List.getElem?_eq_none (by rw [hl]; exact hj)]
end
theorem Filled.set1 {α : Type} {f : α → List Value} {C : Array Value} {l : List α} {k : Nat} {u : Value} (hf : ∀ a, (f a).length = 1) (h : Filled f C l k) (hk : k < l.length) (hC : l.length * 1 ≤ C.size) (e : f l[k] = [u]) :
    Filled f (C.setIfInBounds k u) l (k + 1) := by
  refine h.next hf hk (fun j hj => ?_) (fun i x hx => ?_)
  · rw [Array.getElem?_setIfInBounds_ne (by omega)]
  · rw [e] at hx
    rcases i with _ | i
    · rw [Nat.add_zero, Nat.mul_one, Array.getElem?_setIfInBounds_self_of_lt (by omega)]
      simpa using hx
    · simp at hx
theorem Filled.set3 {α : Type} {f : α → List Value} {C : Array Value} {l : List α} {k : Nat} {u v z : Value} (hf : ∀ a, (f a).length = 3) (h : Filled f C l k) (hk : k < l.length) (hC : l.length * 3 ≤ C.size) (e : f l[k] = [u, v, z]) :
    Filled f (((C.setIfInBounds (k * 3) u).setIfInBounds (k * 3 + 1) v).setIfInBounds (k * 3 + 2) z) l (k + 1) := by
  refine h.next hf hk (fun j hj => ?_) (fun i x hx => ?_)
  · rw [Array.getElem?_setIfInBounds_ne (by omega), Array.getElem?_setIfInBounds_ne (by omega), Array.getElem?_setIfInBounds_ne (by omega)]
  · rw [e] at hx
    rcases i with _ | _ | _ | i
    · rw [Array.getElem?_setIfInBounds_ne (by omega), Array.getElem?_setIfInBounds_ne (by omega), Nat.add_zero, Array.getElem?_setIfInBounds_self_of_lt (by omega)]
      simpa using hx
    · rw [Array.getElem?_setIfInBounds_ne (by omega), Array.getElem?_setIfInBounds_self_of_lt (by simp; omega)]
      simpa using hx
    · rw [Array.getElem?_setIfInBounds_self_of_lt (by simp; omega)]
      simpa using hx
    · simp at hx
theorem grownBy_trans {a b c : World} {r : Option Nat} (h : a.grownBy b r) (k : b.grownBy c r) : a.grownBy c r :=
  ⟨k.os.trans h.os, k.tape.trans h.tape, k.output.trans h.output, Nat.le_trans h.size k.size, fun i hi hn => (k.block i (Nat.lt_of_lt_of_le hi h.size) hn).trans (h.block i hi hn)⟩
theorem grownBy_refl (a : World) (r : Option Nat) : a.grownBy a r := ⟨rfl, rfl, rfl, Nat.le_refl _, fun _ _ _ => rfl⟩
theorem grownBy_of_below {a b : World} (h : Below a.heap.size a b) (r : Option Nat) : a.grownBy b r := ⟨h.os, h.tape, h.output, h.size, fun k hk _ => h.block k hk⟩
theorem grownBy_setCell (w : World) (g o : Nat) (u : Value) : w.grownBy (w.setCell ⟨g, o, none⟩ u) (some g) :=
  ⟨rfl, rfl, rfl, by simp [World.setCell], fun k _ hk => Below.heap_setCell _ _ _ _ (fun e => hk (by rw [e]))⟩
/-- what one's own row alone has changed is below its base -/
theorem below_grown {B : Nat} {w w' : World} {v : Value} (hg : w.grownBy w' v.ownBlock) (hB : ∀ k, v.ownBlock = some k → B ≤ k) (hBw : B ≤ w.heap.size) : Below B w w' := (Below.refl B w).grown hg hBw hB

/-- the first k elements of a slice of integers -/
theorem Rd.take {w : World} {A : Option Addr} {n : Nat} {l : List Int} (h : Rd w A n 1 (rowOf iC l)) {k : Nat} (hk : k ≤ n) : Rd w A k 1 (rowOf iC (l.take k)) := by
  have hr : ∀ (m : List Int), rowOf iC m = m.map (Value.int .i64) := fun m => by
    induction m with
    | nil => rfl
    | cons a m ih => show iC a ++ rowOf iC m = _; rw [ih]; rfl
  have hl : l.length = n := by have := h.1; rw [rowOf_length iC_len] at this; omega
  refine ⟨by rw [rowOf_length iC_len, List.length_take]; omega, fun h0 => ?_⟩
  obtain ⟨b, off, e, hlt, hc⟩ := h.2 (by omega)
  refine ⟨b, off, e, hlt, fun j u hu => hc j u ?_⟩
  rw [hr, List.getElem?_map, List.getElem?_take] at hu
  rw [hr, List.getElem?_map]
  split at hu
  · exact hu
  · simp at hu

def marksI (k n : Nat) : List Int := (List.range n).map fun j => ((k + j : Nat) : Int)
theorem marksI_len (k n : Nat) : (marksI k n).length = n := by simp [marksI]
theorem marksI_at (k n j : Nat) (h : j < (marksI k n).length) : (marksI k n)[j] = ((k + j : Nat) : Int) := by simp [marksI]

/-- the condition of a drawn region that appends to a row of one's own (v) and reads other rows alone -/
theorem S3.mk {W0 w' : World} {v : Value} {B : Nat} (h : Below W0.heap.size W0 w') (hB : B ≤ W0.heap.size) :
    (∀ kb ko, kb < W0.heap.size → ¬ v.ownBlock = some kb → w'.cell? ⟨kb, ko, none⟩ = W0.cell? ⟨kb, ko, none⟩) ∧ W0.heap.size ≤ w'.heap.size ∧ Below B W0 w' :=
  ⟨fun kb ko hk _ => h.cell (p := ⟨kb, ko, none⟩) hk, h.size, h.mono hB⟩
theorem S3.push {W0 w w' : World} {v : Value} {B : Nat} (h : (∀ kb ko, kb < W0.heap.size → ¬ v.ownBlock = some kb → w.cell? ⟨kb, ko, none⟩ = W0.cell? ⟨kb, ko, none⟩) ∧ W0.heap.size ≤ w.heap.size ∧ Below B W0 w)
    (hg : w.grownBy w' v.ownBlock) (hv : ∀ k, v.ownBlock = some k → B ≤ k) (hBw : B ≤ w.heap.size) :
    (∀ kb ko, kb < W0.heap.size → ¬ v.ownBlock = some kb → w'.cell? ⟨kb, ko, none⟩ = W0.cell? ⟨kb, ko, none⟩) ∧ W0.heap.size ≤ w'.heap.size ∧ Below B W0 w' :=
  ⟨fun kb ko h1 h2 => (hg.cell_far ⟨kb, ko, none⟩ (Nat.lt_of_lt_of_le h1 h.2.1) (fun e => h2 e.symm)).trans (h.1 kb ko h1 h2), Nat.le_trans h.2.1 hg.size, h.2.2.grown hg hBw hv⟩
end Go.Proofs.YtinlhigpmchiaaaGreatDoor
namespace Go.Proofs.YtinlhigpmchiaaaGreatDoor
set_option linter.unusedSimpArgs false
set_option linter.unusedVariables false
set_option maxRecDepth 20000
open Go.RowKit
open Go.ChangeShapes Go.WideShapes Go.Deep Go.Joins

theorem bk1 {w : World} {g : Nat} {t : TypeId} {a : Value} (h : Bk w g t #[a]) : w.cell? ⟨g, 0, none⟩ = some a ∧ w.frozen? ⟨g, 0, none⟩ = false := ⟨h.cell 0, h.frozen 0⟩
theorem bk1_put {w : World} {g : Nat} {t : TypeId} {a a' : Value} (h : Bk w g t #[a]) : Bk (w.setCell ⟨g, 0, none⟩ a') g t #[a'] := h.put 0 a'
theorem Own.setCell {α : Type} {f : α → List Value} {E : TypeId} {size : Nat} {w : World} {base : Nat} {v : Value} {l : List α} (h : Own f E size w base v l) (a : Addr) (u : Value) (hne : ∀ k, v.ownBlock = some k → k ≠ a.block) : Own f E size (w.setCell a u) base v l :=
  h.of_block fun k hk => Below.heap_setCell w a u k (hne k hk)
theorem S2.mk {W0 w' : World} {v : Value} {B : Nat} (h : Below W0.heap.size W0 w') (hB : B ≤ W0.heap.size) :
    (∀ kb ko, kb < W0.heap.size → ¬ v.ownBlock = some kb → ¬ kb = B → w'.cell? ⟨kb, ko, none⟩ = W0.cell? ⟨kb, ko, none⟩) ∧ W0.heap.size ≤ w'.heap.size ∧ Below B W0 w' :=
  ⟨fun kb ko hk _ _ => h.cell (p := ⟨kb, ko, none⟩) hk, h.size, h.mono hB⟩
theorem S2.push {W0 w w' : World} {v : Value} {B : Nat} (h : (∀ kb ko, kb < W0.heap.size → ¬ v.ownBlock = some kb → ¬ kb = B → w.cell? ⟨kb, ko, none⟩ = W0.cell? ⟨kb, ko, none⟩) ∧ W0.heap.size ≤ w.heap.size ∧ Below B W0 w)
    (hg : w.grownBy w' v.ownBlock) (hv : ∀ k, v.ownBlock = some k → B ≤ k) (hBw : B ≤ w.heap.size) :
    (∀ kb ko, kb < W0.heap.size → ¬ v.ownBlock = some kb → ¬ kb = B → w'.cell? ⟨kb, ko, none⟩ = W0.cell? ⟨kb, ko, none⟩) ∧ W0.heap.size ≤ w'.heap.size ∧ Below B W0 w' :=
  ⟨fun kb ko h1 h2 h3 => (hg.cell_far ⟨kb, ko, none⟩ (Nat.lt_of_lt_of_le h1 h.2.1) (fun e => h2 e.symm)).trans (h.1 kb ko h1 h2 h3), Nat.le_trans h.2.1 hg.size, h.2.2.grown hg hBw hv⟩
theorem S2.store {W0 w : World} {v : Value} {B : Nat} (h : (∀ kb ko, kb < W0.heap.size → ¬ v.ownBlock = some kb → ¬ kb = B → w.cell? ⟨kb, ko, none⟩ = W0.cell? ⟨kb, ko, none⟩) ∧ W0.heap.size ≤ w.heap.size ∧ Below B W0 w) (u : Value) :
    (∀ kb ko, kb < W0.heap.size → ¬ v.ownBlock = some kb → ¬ kb = B → (w.setCell ⟨B, 0, none⟩ u).cell? ⟨kb, ko, none⟩ = W0.cell? ⟨kb, ko, none⟩) ∧ W0.heap.size ≤ (w.setCell ⟨B, 0, none⟩ u).heap.size ∧ Below B W0 (w.setCell ⟨B, 0, none⟩ u) :=
  ⟨fun kb ko h1 h2 h3 => (World.cell?_of_block (Below.heap_setCell w ⟨B, 0, none⟩ u kb h3)).trans (h.1 kb ko h1 h2 h3), by simpa [World.setCell] using h.2.1, h.2.2.setCell (Nat.le_refl _) u⟩
theorem Bk.alloc {w : World} {g : Nat} {t : TypeId} {cs : Array Value} (h : Bk w g t cs) (ob : Obj) : Bk (w.alloc ob) g t cs := (Below.heap_alloc _ _ _ h.lt).trans h
theorem Bk.next {w w' : World} {g : Nat} {t : TypeId} {cs : Array Value} (h : Bk w g t cs) (hb : Below w.heap.size w w') : Bk w' g t cs := h.below hb h.lt
end Go.Proofs.YtinlhigpmchiaaaGreatDoor
namespace Go.Proofs.YtinlhigpmchiaaaGreatDoor
set_option linter.unusedSimpArgs false
set_option linter.unusedVariables false
set_option maxRecDepth 20000
open Go.RowKit
open Go.ChangeShapes Go.WideShapes Go.Deep Go.Joins

/-- a slice: where it lies, its room, what it holds -/
structure Sl (α : Type) where
  A : Option Addr
  c : Nat
  l : List α
def Sl.val {α : Type} (s : Sl α) : Value := .slice s.A s.l.length s.c
def hdC {α : Type} (s : Sl α) : List Value := [s.val]
theorem hdC_len {α : Type} (s : Sl α) : (hdC s).length = 1 := rfl
/-- a kind of values: the cells of one, the plain value, what it asks of the memory behind it, the blocks it reaches -/
structure Kd (α β : Type) where
  cell : α → List Value
  size : Nat
  E : TypeId
  pl : α → β
  rd : World → α → Prop
  own : World → α → Prop
  fp : α → List Nat
structure Kd.Ok {α β : Type} (K : Kd α β) : Prop where
  len : ∀ a, (K.cell a).length = K.size
  below : ∀ {w w' : World} {a : α}, K.rd w a → Below w.heap.size w w' → K.rd w' a
  keep : ∀ {w w' : World} {a : α}, K.own w a → (∀ b ∈ K.fp a, w'.heap[b]? = w.heap[b]?) → K.own w' a
  toRd : ∀ {w : World} {a : α}, K.own w a → K.rd w a
  lt : ∀ {w : World} {a : α}, K.own w a → ∀ b ∈ K.fp a, b < w.heap.size
def Kd.flat {α : Type} (cell : α → List Value) (size : Nat) (E : TypeId) : Kd α α := ⟨cell, size, E, id, fun _ _ => True, fun _ _ => True, fun _ => []⟩
def Kd.sl {α β : Type} (K : Kd α β) (T : TypeId) : Kd (Sl α) (List β) where
  cell := hdC
  size := 1
  E := T
  pl s := s.l.map K.pl
  rd w s := Rd w s.A s.l.length K.size (rowOf K.cell s.l) ∧ ∀ a ∈ s.l, K.rd w a
  own w s := Own K.cell K.E K.size w 0 s.val s.l ∧ ∀ a ∈ s.l, K.own w a
  fp s := s.val.ownBlock.toList ++ s.l.flatMap K.fp
theorem Kd.flat_ok {α : Type} {cell : α → List Value} {size : Nat} {E : TypeId} (h : ∀ a, (cell a).length = size) : (Kd.flat cell size E).Ok :=
  ⟨h, fun _ _ => trivial, fun _ _ => trivial, fun _ => trivial, fun _ b hb => by simp [Kd.flat] at hb⟩
theorem Kd.fp_top {α β : Type} {K : Kd α β} {T : TypeId} {s : Sl α} {b : Nat} (h : s.val.ownBlock = some b) : b ∈ (K.sl T).fp s := by
  show b ∈ s.val.ownBlock.toList ++ _
  rw [h]; simp
theorem Kd.fp_in {α β : Type} {K : Kd α β} {T : TypeId} {s : Sl α} {a : α} (ha : a ∈ s.l) {b : Nat} (h : b ∈ K.fp a) : b ∈ (K.sl T).fp s :=
  List.mem_append_right _ (List.mem_flatMap.2 ⟨a, ha, h⟩)
theorem Kd.sl_ok {α β : Type} {K : Kd α β} (h : K.Ok) (T : TypeId) : (K.sl T).Ok where
  len := hdC_len
  below := fun h1 hb => ⟨h1.1.below hb, fun a ha => h.below (h1.2 a ha) hb⟩
  keep := fun h1 hb => ⟨h1.1.of_block fun k hk => hb k (Kd.fp_top hk), fun a ha => h.keep (h1.2 a ha) fun b hb2 => hb b (Kd.fp_in ha hb2)⟩
  toRd := fun {w a} h1 => ⟨Own.rdS (A := a.A) (c := a.c) h1.1 rfl, fun x hx => h.toRd (h1.2 x hx)⟩
  lt := fun {w a} h1 b hb => by
    rcases List.mem_append.1 hb with hb | hb
    · have : a.val.ownBlock = some b := by simpa using hb
      exact (h1.1.lt b this).2
    · obtain ⟨x, hx, hb2⟩ := List.mem_flatMap.1 hb
      exact h.lt (h1.2 x hx) b hb2
/-- one's own, in blocks from lo to hi, all apart -/
structure Mine {α β : Type} (K : Kd α β) (w : World) (lo hi : Nat) (a : α) : Prop where
  own : K.own w a
  apart : (K.fp a).Nodup
  rng : ∀ b ∈ K.fp a, lo ≤ b ∧ b < hi
/-- blocks of this list alone have changed -/
structure ChgF (fp : List Nat) (w w' : World) : Prop where
  os : w'.os = w.os
  tape : w'.tape = w.tape
  output : w'.output = w.output
  size : w.heap.size ≤ w'.heap.size
  block : ∀ k, k < w.heap.size → k ∉ fp → w'.heap[k]? = w.heap[k]?
theorem ChgF.refl (fp : List Nat) (w : World) : ChgF fp w w := ⟨rfl, rfl, rfl, Nat.le_refl _, fun _ _ _ => rfl⟩
theorem ChgF.trans {fp : List Nat} {a b c : World} (h : ChgF fp a b) (k : ChgF fp b c) : ChgF fp a c :=
  ⟨k.os.trans h.os, k.tape.trans h.tape, k.output.trans h.output, Nat.le_trans h.size k.size, fun i hi hn => (k.block i (Nat.lt_of_lt_of_le hi h.size) hn).trans (h.block i hi hn)⟩
theorem ChgF.mono {fp fp' : List Nat} {w w' : World} (h : ChgF fp w w') (hs : ∀ b ∈ fp, b ∈ fp') : ChgF fp' w w' := ⟨h.os, h.tape, h.output, h.size, fun k hk hn => h.block k hk fun hb => hn (hs k hb)⟩
theorem ChgF.of_below {fp : List Nat} {w w' : World} (h : Below w.heap.size w w') : ChgF fp w w' := ⟨h.os, h.tape, h.output, h.size, fun k hk _ => h.block k hk⟩
theorem ChgF.of_grown {fp : List Nat} {w w' : World} {v : Value} (h : w.grownBy w' v.ownBlock) (hs : ∀ b, v.ownBlock = some b → b ∈ fp) : ChgF fp w w' :=
  ⟨h.os, h.tape, h.output, h.size, fun k hk hn => h.block k hk fun e => hn (hs k e.symm)⟩
theorem ChgF.below {fp : List Nat} {w w' : World} {lo : Nat} (h : ChgF fp w w') (hs : ∀ b ∈ fp, lo ≤ b) (hl : lo ≤ w.heap.size) : Below lo w w' :=
  ⟨h.os, h.tape, h.output, h.size, fun k hk => h.block k (by omega) fun hb => by have := hs k hb; omega⟩
theorem Kd.own_chg {α β : Type} {K : Kd α β} (hK : K.Ok) {fp : List Nat} {w w' : World} {a : α} (h : K.own w a) (hc : ChgF fp w w') (hd : ∀ b ∈ K.fp a, b ∉ fp) : K.own w' a :=
  hK.keep h fun b hb => hc.block b (hK.lt h b hb) (hd b hb)
theorem Kd.own_next {α β : Type} {K : Kd α β} (hK : K.Ok) {w w' : World} {a : α} (h : K.own w a) (hb : Below w.heap.size w w') : K.own w' a := hK.keep h fun b hm => hb.block b (hK.lt h b hm)
theorem Mine.next {α β : Type} {K : Kd α β} (hK : K.Ok) {w w' : World} {lo hi : Nat} {a : α} (h : Mine K w lo hi a) (hb : Below w.heap.size w w') : Mine K w' lo hi a := ⟨Kd.own_next hK h.own hb, h.apart, h.rng⟩
theorem Mine.chg {α β : Type} {K : Kd α β} (hK : K.Ok) {fp : List Nat} {w w' : World} {lo hi : Nat} {a : α} (h : Mine K w lo hi a) (hc : ChgF fp w w') (hd : ∀ b ∈ K.fp a, b ∉ fp) : Mine K w' lo hi a := ⟨Kd.own_chg hK h.own hc hd, h.apart, h.rng⟩
theorem Mine.low {α β : Type} {K : Kd α β} {w : World} {lo lo' hi hi' : Nat} {a : α} (h : Mine K w lo hi a) (hl : lo' ≤ lo) (hh : hi ≤ hi') : Mine K w lo' hi' a := ⟨h.own, h.apart, fun b hb => by have := h.rng b hb; omega⟩
theorem Mine.rd {α β : Type} {K : Kd α β} (hK : K.Ok) {w : World} {lo hi : Nat} {a : α} (h : Mine K w lo hi a) : K.rd w a := hK.toRd h.own
theorem Mine.nil {α β : Type} (K : Kd α β) (T : TypeId) (w : World) (lo hi : Nat) : Mine (K.sl T) w lo hi ⟨none, 0, []⟩ :=
  ⟨⟨Own.nil _ _ _ _ _, fun a ha => by simp at ha⟩, by show List.Nodup ([] : List Nat); exact List.nodup_nil, fun b hb => by simp [Kd.sl, Sl.val, Value.ownBlock] at hb⟩

theorem kd_row_same {α : Type} {f : α → List Value} {l : List α} {k : Nat} (hk : k < l.length) {a' : α} (e : f a' = f l[k]) : rowOf f (l.set k a') = rowOf f l := by
  induction l generalizing k with
  | nil => simp at hk
  | cons a l ih =>
    rcases k with _ | k
    · show f a' ++ rowOf f l = f a ++ rowOf f l
      rw [e]; rfl
    · show f a ++ rowOf f (l.set k a') = f a ++ rowOf f l
      rw [ih (by simpa using hk) e]
theorem kd_fp_same {α β : Type} {K : Kd α β} {l : List α} {k : Nat} (hk : k < l.length) {a' : α} (e : K.fp a' = K.fp l[k]) : (l.set k a').flatMap K.fp = l.flatMap K.fp := by
  induction l generalizing k with
  | nil => simp at hk
  | cons a l ih =>
    rcases k with _ | k
    · show K.fp a' ++ l.flatMap K.fp = K.fp a ++ l.flatMap K.fp
      rw [e]; rfl
    · show K.fp a ++ (l.set k a').flatMap K.fp = K.fp a ++ l.flatMap K.fp
      rw [ih (by simpa using hk) e]
theorem kd_apart {α β : Type} {K : Kd α β} : ∀ {l : List α} {i j : Nat} (hi : i < l.length) (hj : j < l.length), (l.flatMap K.fp).Nodup → i ≠ j → ∀ b ∈ K.fp l[i], b ∉ K.fp l[j] := by
  intro l
  induction l with
  | nil => intro i j hi; simp at hi
  | cons a l ih =>
    intro i j hi hj hn hij b hb hb2
    rw [List.flatMap_cons, List.nodup_append] at hn
    obtain ⟨_, h2, h3⟩ := hn
    rcases i with _ | i
    · rcases j with _ | j
      · exact hij rfl
      · exact h3 b hb b (List.mem_flatMap.2 ⟨_, List.getElem_mem (by simpa using hj), hb2⟩) rfl
    · rcases j with _ | j
      · exact h3 b hb2 b (List.mem_flatMap.2 ⟨_, List.getElem_mem (by simpa using hi), hb⟩) rfl
      · exact ih (by simpa using hi) (by simpa using hj) h2 (by omega) b hb hb2
/-- an element that reaches memory is changed behind its cells -/
theorem Mine.inside {α β : Type} {K : Kd α β} (hK : K.Ok) {T : TypeId} {w w' : World} {lo hi : Nat} {A : Option Addr} {c : Nat} {l : List α} (h : Mine (K.sl T) w lo hi ⟨A, c, l⟩) {k : Nat} (hk : k < l.length) {a' : α}
    (hcell : K.cell a' = K.cell l[k]) (hfp : K.fp a' = K.fp l[k]) (ho : K.own w' a') (hc : ChgF (K.fp l[k]) w w') : Mine (K.sl T) w' lo hi ⟨A, c, l.set k a'⟩ := by
  have hfps : (K.sl T).fp ⟨A, c, l.set k a'⟩ = (K.sl T).fp ⟨A, c, l⟩ := by
    show (Value.slice A (l.set k a').length c).ownBlock.toList ++ (l.set k a').flatMap K.fp = (Value.slice A l.length c).ownBlock.toList ++ l.flatMap K.fp
    rw [kd_fp_same hk hfp, List.length_set]
  have hnd := h.apart
  have hnd2 : (l.flatMap K.fp).Nodup := (List.nodup_append.1 hnd).2.1
  have hrow : Own K.cell K.E K.size w' 0 (.slice A (l.set k a').length c) (l.set k a') := by
    have h1 : Own K.cell K.E K.size w' 0 (.slice A l.length c) l := by
      refine h.own.1.of_block fun b hb => ?_
      refine hc.block b (h.own.1.lt b hb).2 fun hb2 => ?_
      exact (List.nodup_append.1 hnd).2.2 b (by show b ∈ (Value.slice A l.length c).ownBlock.toList; rw [show (Value.slice A l.length c).ownBlock = some b from hb]; simp) b (List.mem_flatMap.2 ⟨_, List.getElem_mem hk, hb2⟩) rfl
    unfold Own at h1 ⊢
    rw [List.length_set, kd_row_same hk hcell]
    exact h1
  refine ⟨⟨hrow, fun a ha => ?_⟩, by rw [hfps]; exact hnd, by rw [hfps]; exact h.rng⟩
  obtain ⟨i, hi, rfl⟩ := List.mem_iff_getElem.1 ha
  have hi' : i < l.length := by simpa using hi
  by_cases e : i = k
  · subst e
    rw [List.getElem_set_self]
    exact ho
  · have e2 : (l.set k a')[i] = l[i] := by rw [List.getElem_set_ne (fun x => e x.symm)]
    rw [e2]
    exact Kd.own_chg hK (h.own.2 _ (List.getElem_mem hi')) hc (kd_apart hi' hk hnd2 e)
end Go.Proofs.YtinlhigpmchiaaaGreatDoor
namespace Go.Proofs.YtinlhigpmchiaaaGreatDoor
set_option linter.unusedSimpArgs false
set_option linter.unusedVariables false
set_option maxRecDepth 20000
open Go.RowKit
open Go.ChangeShapes Go.WideShapes Go.Deep Go.Joins

def mkL {α : Type} (mk : Nat → α → α) (cnt : α → Nat) : Nat → List α → List α
  | _, [] => []
  | k, a :: l => mk k a :: mkL mk cnt (k + cnt a) l
def cntL {α : Type} (cnt : α → Nat) (l : List α) : Nat := (l.map cnt).sum
section
variable {α : Type} {mk : Nat → α → α} {cnt : α → Nat}
theorem mkL_len : ∀ (k : Nat) (l : List α), (mkL mk cnt k l).length = l.length
  | _, [] => rfl
  | k, a :: l => by rw [mkL, List.length_cons, List.length_cons, mkL_len]
theorem mkL_snoc : ∀ (k : Nat) (l : List α) (a : α), mkL mk cnt k (l ++ [a]) = mkL mk cnt k l ++ [mk (k + cntL cnt l) a]
  | k, [], a => by simp [mkL, cntL]
  | k, b :: l, a => by
    rw [List.cons_append, mkL, mkL_snoc, mkL, List.cons_append]
    simp [cntL, Nat.add_assoc]
theorem cntL_next {l : List α} {i : Nat} (h : i < l.length) : cntL cnt (l.take (i + 1)) = cntL cnt (l.take i) + cnt l[i] := by
  rw [List.take_succ_eq_append_getElem h]
  simp only [cntL, List.map_append, List.sum_append, List.map_cons, List.map_nil, List.sum_cons, List.sum_nil, Nat.add_zero]
theorem cntL_le (l : List α) (i : Nat) : cntL cnt (l.take i) ≤ cntL cnt l := by
  have h : cntL cnt l = cntL cnt (l.take i) + cntL cnt (l.drop i) := by
    have e : l = l.take i ++ l.drop i := (List.take_append_drop i l).symm
    have h2 : cntL cnt (l.take i ++ l.drop i) = cntL cnt (l.take i) + cntL cnt (l.drop i) := by simp only [cntL, List.map_append, List.sum_append]
    rw [← e] at h2
    exact h2
  omega
def mixM (mk : Nat → α → α) (cnt : α → Nat) (k : Nat) (l : List α) (i : Nat) : List α := mkL mk cnt k (l.take i) ++ l.drop i
theorem mixM_zero (k : Nat) (l : List α) : mixM mk cnt k l 0 = l := by simp [mixM, mkL]
theorem mixM_all (k : Nat) (l : List α) : mixM mk cnt k l l.length = mkL mk cnt k l := by simp [mixM]
theorem mixM_len (k : Nat) (l : List α) (i : Nat) (h : i ≤ l.length) : (mixM mk cnt k l i).length = l.length := by simp [mixM, mkL_len]; omega
theorem mixM_at (k : Nat) {l : List α} {i : Nat} (h : i < l.length) (h2 : i < (mixM mk cnt k l i).length) : (mixM mk cnt k l i)[i] = l[i] := by
  simp only [mixM]
  rw [List.getElem_append_right (by rw [mkL_len]; simp; omega)]
  simp [mkL_len, Nat.min_eq_left (Nat.le_of_lt h)]
theorem mixM_next (k : Nat) {l : List α} {i : Nat} (h : i < l.length) : (mixM mk cnt k l i).set i (mk (k + cntL cnt (l.take i)) l[i]) = mixM mk cnt k l (i + 1) := by
  simp only [mixM]
  have e : i - (mkL mk cnt k (l.take i)).length = 0 := by rw [mkL_len]; simp; omega
  rw [List.set_append_right _ _ (by rw [mkL_len]; simp; omega), List.take_succ_eq_append_getElem h, mkL_snoc, List.append_assoc, e, List.drop_eq_getElem_cons h, List.set_cons_zero]
  rfl
theorem mkL_at : ∀ (k : Nat) (l : List α) (i : Nat) (h : i < (mkL mk cnt k l).length) (h2 : i < l.length), (mkL mk cnt k l)[i] = mk (k + cntL cnt (l.take i)) l[i]
  | k, a :: l, 0, h, h2 => by simp [mkL, cntL]
  | k, a :: l, i + 1, h, h2 => by
    have h3 := mkL_at (k + cnt a) l i (by rw [mkL_len]; simpa using h2) (by simpa using h2)
    simp only [mkL, List.getElem_cons_succ]
    rw [h3]
    simp [cntL, Nat.add_assoc]
end
/-- a mark that leaves cells and blocks as they are -/
structure MkOk {α β : Type} (K : Kd α β) (mk : Nat → α → α) : Prop where
  cell : ∀ k a, K.cell (mk k a) = K.cell a
  fp : ∀ k a, K.fp (mk k a) = K.fp a
def mkSl {α : Type} (mk : Nat → α → α) (cnt : α → Nat) (k : Nat) (s : Sl α) : Sl α := ⟨s.A, s.c, mkL mk cnt k s.l⟩
def cntSl {α : Type} (cnt : α → Nat) (s : Sl α) : Nat := cntL cnt s.l
theorem mkL_fp {α β : Type} {K : Kd α β} {mk : Nat → α → α} {cnt : α → Nat} (h : MkOk K mk) : ∀ (k : Nat) (l : List α), (mkL mk cnt k l).flatMap K.fp = l.flatMap K.fp
  | _, [] => rfl
  | k, a :: l => by rw [mkL, List.flatMap_cons, List.flatMap_cons, h.fp, mkL_fp h]
theorem mkSl_ok {α β : Type} {K : Kd α β} {mk : Nat → α → α} {cnt : α → Nat} (h : MkOk K mk) (T : TypeId) : MkOk (K.sl T) (mkSl mk cnt) where
  cell k a := by show [Value.slice a.A (mkL mk cnt k a.l).length a.c] = [Value.slice a.A a.l.length a.c]; rw [mkL_len]
  fp k a := by
    show (Value.slice a.A (mkL mk cnt k a.l).length a.c).ownBlock.toList ++ (mkL mk cnt k a.l).flatMap K.fp = (Value.slice a.A a.l.length a.c).ownBlock.toList ++ a.l.flatMap K.fp
    rw [mkL_len, mkL_fp h]
theorem kd_nodup_at {α β : Type} {K : Kd α β} : ∀ {l : List α} {i : Nat} (hi : i < l.length), (l.flatMap K.fp).Nodup → (K.fp l[i]).Nodup := by
  intro l
  induction l with
  | nil => intro i hi; simp at hi
  | cons a l ih =>
    intro i hi hn
    rw [List.flatMap_cons, List.nodup_append] at hn
    rcases i with _ | i
    · exact hn.1
    · exact ih (by simpa using hi) hn.2.1
theorem Mine.elem {α β : Type} {K : Kd α β} {T : TypeId} {w : World} {lo hi : Nat} {A : Option Addr} {c : Nat} {l : List α} (h : Mine (K.sl T) w lo hi ⟨A, c, l⟩) {j : Nat} (hj : j < l.length) : Mine K w lo hi l[j] := by
  refine ⟨h.own.2 _ (List.getElem_mem hj), ?_, fun b hb => h.rng b (Kd.fp_in (List.getElem_mem hj) hb)⟩
  have hn := (List.nodup_append.1 h.apart).2.1
  exact kd_nodup_at hj hn

def intK : Kd Int Int := Kd.flat iC 1 2
def rowK : Kd (Sl Int) (List Int) := intK.sl 55
theorem intK_ok : intK.Ok := Kd.flat_ok iC_len
theorem rowK_ok : rowK.Ok := Kd.sl_ok intK_ok _
def mkRow (k : Nat) (s : Sl Int) : Sl Int := ⟨s.A, s.c, marksI k s.l.length⟩
def cntRow (s : Sl Int) : Nat := s.l.length
def mkRows : Nat → Sl (Sl Int) → Sl (Sl Int) := mkSl mkRow cntRow
def cntRows : Sl (Sl Int) → Nat := cntSl cntRow
theorem mkRow_ok : MkOk rowK mkRow where
  cell k a := by show [Value.slice a.A (marksI k a.l.length).length a.c] = [Value.slice a.A a.l.length a.c]; rw [marksI_len]
  fp k a := by
    show (Value.slice a.A (marksI k a.l.length).length a.c).ownBlock.toList ++ (marksI k a.l.length).flatMap (fun _ => []) = (Value.slice a.A a.l.length a.c).ownBlock.toList ++ a.l.flatMap (fun _ => [])
    have z : ∀ L : List Int, L.flatMap (fun _ => ([] : List Nat)) = [] := fun L => by simp
    rw [marksI_len, z, z]
end Go.Proofs.YtinlhigpmchiaaaGreatDoor
namespace Go.Proofs.YtinlhigpmchiaaaGreatDoor
set_option linter.unusedSimpArgs false
set_option linter.unusedVariables false
set_option maxRecDepth 20000
open Go.RowKit
open Go.ChangeShapes Go.WideShapes Go.Deep Go.Joins

section
variable {α : Type} {f : α → List Value} {E : TypeId} {size bytes : Nat} {w : World}
theorem rowOf_one {P : Value → Prop} (he : ∀ a, ∀ u ∈ f a, P u) (l : List α) : ∀ u ∈ rowOf f l, P u := fun u hu => by
  obtain ⟨a, _, h⟩ := List.mem_flatMap.1 hu
  exact he a u h
/-- a list appended to a row of one's own -/
theorem run_pushes (he : Elem f E size bytes) (t ty : TypeId) (ht : Tryz.prog.underlying t = some (.slice E)) (base : Nat) (v : Value) (l ys : List α) (hown : Own f E size w base v l) (n m : Nat) (hln : l.length = n) (hm : ys.length = m) (h0 : 0 < m)
    (A : Option Addr) (c : Nat) (hy : Rd w A m size (rowOf f ys)) (h63 : n + m ≤ maxLen) (hbytes : (n + m) * bytes ≤ 140737488355328) (hbase : base ≤ w.heap.size) :
    ∃ g cap w', (Builtin.append_ #[t, t] ty #[v, .slice A m c]).run Tryz.prog w = .ok (.slice (some ⟨g, 0, none⟩) (n + m) cap) w' ∧ Own f E size w' base (.slice (some ⟨g, 0, none⟩) (n + m) cap) (l ++ ys) ∧
      w.grownBy w' v.ownBlock ∧ (v.ownBlock = some g ∨ g = w.heap.size) ∧ g < w'.heap.size := by
  obtain ⟨i, z, hi, hz, hsize, hby, hzs⟩ := he.info
  obtain ⟨b1, o1, rfl, _, hc⟩ := hy.2 h0
  subst hln
  subst hm
  have hnews : ∀ j u, (rowOf f ys)[j]? = some u → w.cell? ((⟨b1, o1, none⟩ : Addr).add j) = some u := fun j u hu => by
    have hadd : (⟨b1, o1, none⟩ : Addr).add j = ⟨b1, o1 + j, none⟩ := by unfold Addr.add; split <;> simp_all
    rw [hadd]
    exact hc j u hu
  obtain ⟨g, cap, w', hr, h2, h3, h4, h5⟩ := run_append_lies (P := Tryz.prog) w t ty base E i z size bytes ht hi hz hsize hby hzs he.pos v l.length (rowOf f l) hown ⟨b1, o1, none⟩ ys.length c (rowOf f ys) (rowOf_length he.len ys) hnews (rowOf_one he.one ys) h0 h63 hbytes hbase _ rfl
  refine ⟨g, cap, w', hr, ?_, h3, h4, h5⟩
  unfold Own
  rw [rowOf_append, List.length_append]
  exact h2
theorem list_pushes (he : Elem f E size bytes) {ops : Array Oper} {rest : List Oper} {o : Oper} {a : Act} {Q : Exit → Act → World → Prop} (hgd : o.guard = none) (s x : Operand) (t : TypeId)
    (ho : o.op = .call { callee := .builtin .append, args := #[s, x], argTypes := #[t, t] }) (ht : Tryz.prog.underlying t = some (.slice E)) (base : Nat) (v : Value) (l ys : List α) (hs : a.eval s = v) (hown : Own f E size w base v l) (n m : Nat) (hln : l.length = n) (hm : ys.length = m) (h0 : 0 < m)
    (A : Option Addr) (c : Nat) (hx : a.eval x = .slice A m c) (hy : Rd w A m size (rowOf f ys)) (h63 : n + m ≤ maxLen) (hbytes : (n + m) * bytes ≤ 140737488355328) (hbase : base ≤ w.heap.size)
    (h : ∀ g cap w', Own f E size w' base (.slice (some ⟨g, 0, none⟩) (n + m) cap) (l ++ ys) → w.grownBy w' v.ownBlock → (v.ownBlock = some g ∨ g = w.heap.size) → g < w'.heap.size → wpList Tryz.prog ops Q rest (a.put o.dst (.slice (some ⟨g, 0, none⟩) (n + m) cap)) w') : wpList Tryz.prog ops Q (o :: rest) a w :=
  wpList_plain hgd fun _ hK => by
    obtain ⟨g, cap, w', hr, h2, h3, h4, h5⟩ := run_pushes he t o.type ht base v l ys hown n m hln hm h0 A c hy h63 hbytes hbase
    unfold Oper.wp execOp
    simp only [ho, resolve, invoke, builtin, Sem.run_bind, Sem.run_pure, Result.andThen_ok, List.map_toArray, List.map_cons, List.map_nil, hs, hx, hr]
    exact hK _ _ (h g cap w' h2 h3 h4 h5)
/-- the same where the row or the list is not empty, the list at an address -/
theorem run_pushes2 (he : Elem f E size bytes) (t ty : TypeId) (ht : Tryz.prog.underlying t = some (.slice E)) (base : Nat) (v : Value) (l ys : List α) (hown : Own f E size w base v l) (n m : Nat) (hln : l.length = n) (hm : ys.length = m) (h0 : 0 < n + m)
    (b1 o1 c : Nat) (hy : ∀ j u, (rowOf f ys)[j]? = some u → w.cell? ⟨b1, o1 + j, none⟩ = some u) (h63 : n + m ≤ maxLen) (hbytes : (n + m) * bytes ≤ 140737488355328) (hbase : base ≤ w.heap.size) :
    ∃ g cap w', (Builtin.append_ #[t, t] ty #[v, .slice (some ⟨b1, o1, none⟩) m c]).run Tryz.prog w = .ok (.slice (some ⟨g, 0, none⟩) (n + m) cap) w' ∧ Own f E size w' base (.slice (some ⟨g, 0, none⟩) (n + m) cap) (l ++ ys) ∧
      w.grownBy w' v.ownBlock ∧ (v.ownBlock = some g ∨ g = w.heap.size) ∧ g < w'.heap.size := by
  obtain ⟨i, z, hi, hz, hsize, hby, hzs⟩ := he.info
  subst hln
  subst hm
  have hnews : ∀ j u, (rowOf f ys)[j]? = some u → w.cell? ((⟨b1, o1, none⟩ : Addr).add j) = some u := fun j u hu => by
    have hadd : (⟨b1, o1, none⟩ : Addr).add j = ⟨b1, o1 + j, none⟩ := by unfold Addr.add; split <;> simp_all
    rw [hadd]
    exact hy j u hu
  obtain ⟨v', w', hr, h2, h3, _, h5⟩ := run_append_own_at (P := Tryz.prog) w base t ty E i z size bytes ht hi hz hsize hby hzs he.pos v l.length (rowOf f l) hown ⟨b1, o1, none⟩ ys.length c (rowOf f ys) (rowOf_length he.len ys) hnews (rowOf_one he.one ys) h63 hbytes hbase
  obtain ⟨g, cap, rfl, _, hlt⟩ := h2.form h0
  refine ⟨g, cap, w', hr, ?_, h3, ?_, hlt⟩
  · unfold Own
    rw [rowOf_append, List.length_append]
    exact h2
  · rcases h5 with h5 | h5
    · exact .inl (by rw [← h5]; rfl)
    · right
      simpa [Value.ownBlock] using h5
theorem list_pushes2 (he : Elem f E size bytes) {ops : Array Oper} {rest : List Oper} {o : Oper} {a : Act} {Q : Exit → Act → World → Prop} (hgd : o.guard = none) (s x : Operand) (t : TypeId)
    (ho : o.op = .call { callee := .builtin .append, args := #[s, x], argTypes := #[t, t] }) (ht : Tryz.prog.underlying t = some (.slice E)) (base : Nat) (v : Value) (l ys : List α) (hs : a.eval s = v) (hown : Own f E size w base v l) (n m : Nat) (hln : l.length = n) (hm : ys.length = m) (h0 : 0 < n + m)
    (b1 o1 c : Nat) (hx : a.eval x = .slice (some ⟨b1, o1, none⟩) m c) (hy : ∀ j u, (rowOf f ys)[j]? = some u → w.cell? ⟨b1, o1 + j, none⟩ = some u) (h63 : n + m ≤ maxLen) (hbytes : (n + m) * bytes ≤ 140737488355328) (hbase : base ≤ w.heap.size)
    (h : ∀ g cap w', Own f E size w' base (.slice (some ⟨g, 0, none⟩) (n + m) cap) (l ++ ys) → w.grownBy w' v.ownBlock → (v.ownBlock = some g ∨ g = w.heap.size) → g < w'.heap.size → wpList Tryz.prog ops Q rest (a.put o.dst (.slice (some ⟨g, 0, none⟩) (n + m) cap)) w') : wpList Tryz.prog ops Q (o :: rest) a w :=
  wpList_plain hgd fun _ hK => by
    obtain ⟨g, cap, w', hr, h2, h3, h4, h5⟩ := run_pushes2 he t o.type ht base v l ys hown n m hln hm h0 b1 o1 c hy h63 hbytes hbase
    unfold Oper.wp execOp
    simp only [ho, resolve, invoke, builtin, Sem.run_bind, Sem.run_pure, Result.andThen_ok, List.map_toArray, List.map_cons, List.map_nil, hs, hx, hr]
    exact hK _ _ (h g cap w' h2 h3 h4 h5)
/-- an empty slice that has just been made -/
theorem Own.empty {g base : Nat} (h : Bk w g E #[]) (hb : base ≤ g) : Own f E size w base (.slice (some ⟨g, 0, none⟩) 0 0) [] :=
  ⟨by simp [rowOf], .inr ⟨g, 0, #[], rfl, hb, h, Nat.le_refl _, by unfold maxLen; omega, by simp, by simp [rowOf]⟩⟩
/-- the row's cells, from its head -/
theorem Own.at0 {g m c base : Nat} {l : List α} (h : Own f E size w base (.slice (some ⟨g, 0, none⟩) m c) l) : ∀ j u, (rowOf f l)[j]? = some u → w.cell? ⟨g, j, none⟩ = some u := fun j u hu => by
  obtain ⟨A, c', e, _, _, hr⟩ := h.rd
  have hl : 0 < l.length := by
    cases l with
    | nil => simp [rowOf] at hu
    | cons a l => simp
  obtain ⟨b, off, e2, _, hc⟩ := hr.2 hl
  injection e with e3 e4 e5
  rw [← e3] at e2
  injection e2 with e2
  injection e2 with e6 e7
  have h1 := hc j u hu
  rw [← e6, ← e7, Nat.zero_add] at h1
  exact h1
end
end Go.Proofs.YtinlhigpmchiaaaGreatDoor
