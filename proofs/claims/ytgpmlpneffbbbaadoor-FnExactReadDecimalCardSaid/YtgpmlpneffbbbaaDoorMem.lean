/-
  Slices in memory: a slice that reads as a list, nil let in.
-/
import Derived.Test.YtgpmlpneffbbbaaDoorBase
import Derived.Deep.OwnRows
import Derived.Maps.AppendAt
import Derived.Laws.MakeOwn
namespace Go.Proofs.YtgpmlpneffbbbaaDoor
set_option linter.unusedSimpArgs false
set_option linter.unusedVariables false
set_option maxRecDepth 20000
open Go.RowKit

/-- The slice value '.slice A n _' reads as these cells ('size' of them an element). -/
def Rd (w : World) (A : Option Addr) (n size : Nat) (xs : List Value) : Prop :=
  xs.length = n * size ∧ (0 < n → ∃ b off, A = some ⟨b, off, none⟩ ∧ b < w.heap.size ∧ ∀ j u, xs[j]? = some u → w.cell? ⟨b, off + j, none⟩ = some u)
theorem Rd.below {w w' : World} {A : Option Addr} {n size : Nat} {xs : List Value} (h : Rd w A n size xs) (hb : Below w.heap.size w w') : Rd w' A n size xs :=
  ⟨h.1, fun hn => by
    obtain ⟨b, off, e, hlt, hc⟩ := h.2 hn
    exact ⟨b, off, e, Nat.lt_of_lt_of_le hlt hb.size, fun j u hu => (hb.cell (p := ⟨b, off + j, none⟩) hlt).trans (hc j u hu)⟩⟩
theorem Rd.drew {w : World} {A : Option Addr} {n size : Nat} {xs : List Value} (h : Rd w A n size xs) : Rd w.drew A n size xs := h
theorem Rd.alloc {w : World} {A : Option Addr} {n size : Nat} {xs : List Value} (h : Rd w A n size xs) (o : Obj) : Rd (w.alloc o) A n size xs := h.below ((Below.refl _ _).alloc (Nat.le_refl _) o)
theorem Rd.nil (w : World) (A : Option Addr) (size : Nat) : Rd w A 0 size [] := ⟨by simp, fun h => absurd h (by omega)⟩

/-- the cells of a list of structs -/
def rowOf {α : Type} (f : α → List Value) (l : List α) : List Value := l.flatMap f
theorem rowOf_append {α : Type} (f : α → List Value) (l m : List α) : rowOf f (l ++ m) = rowOf f l ++ rowOf f m := by simp [rowOf]
theorem rowOf_length {α : Type} {f : α → List Value} {size : Nat} (hf : ∀ a, (f a).length = size) (l : List α) : (rowOf f l).length = l.length * size := by
  induction l with
  | nil => simp [rowOf]
  | cons a l ih =>
    have e : rowOf f (a :: l) = f a ++ rowOf f l := rfl
    rw [e, List.length_append, ih, hf, List.length_cons, Nat.add_mul]
    omega
theorem rowOf_at {α : Type} {f : α → List Value} {size : Nat} (hf : ∀ a, (f a).length = size) : ∀ (l : List α) (k : Nat) (h : k < l.length) (i : Nat), i < size → (rowOf f l)[k * size + i]? = (f l[k])[i]?
  | a :: l, 0, h, i, hi => by
    have e : rowOf f (a :: l) = f a ++ rowOf f l := rfl
    rw [e, Nat.zero_mul, Nat.zero_add, List.getElem?_append_left (by rw [hf]; exact hi)]
    rfl
  | a :: l, k + 1, h, i, hi => by
    have e : rowOf f (a :: l) = f a ++ rowOf f l := rfl
    have h' : k < l.length := by simpa using h
    have ih := rowOf_at hf l k h' i hi
    rw [e, List.getElem?_append_right (by rw [hf, Nat.add_mul]; omega), hf]
    have e2 : (k + 1) * size + i - size = k * size + i := by rw [Nat.add_mul]; omega
    rw [e2, ih]
    rfl
/-- the cells of element k -/
theorem Rd.at {α : Type} {f : α → List Value} {size : Nat} (hf : ∀ a, (f a).length = size) {w : World} {A : Option Addr} {n : Nat} {l : List α} (h : Rd w A n size (rowOf f l)) (hn : l.length = n) {k : Nat} (hk : k < l.length) :
    ∃ b off, A = some ⟨b, off, none⟩ ∧ b < w.heap.size ∧ ∀ i u, (f l[k])[i]? = some u → w.cell? ⟨b, off + (k * size + i), none⟩ = some u := by
  obtain ⟨b, off, e, hlt, hc⟩ := h.2 (by omega)
  refine ⟨b, off, e, hlt, fun i u hu => hc _ u ?_⟩
  have hi : i < size := by rw [← hf l[k]]; exact (List.getElem?_eq_some_iff.1 hu).1
  rw [rowOf_at hf l k hk i hi]
  exact hu

/-- block g is just these cells of type t, none frozen -/
def Bk (w : World) (g : Nat) (t : TypeId) (cs : Array Value) : Prop := w.heap[g]? = some (.cells cs t (0, 0))
section
variable {w w' : World} {g : Nat} {t : TypeId} {cs : Array Value}
theorem Bk.lt (h : Bk w g t cs) : g < w.heap.size := (Array.getElem?_eq_some_iff.1 h).1
theorem Bk.cell (h : Bk w g t cs) (i : Nat) : w.cell? ⟨g, i, none⟩ = cs[i]? := cell_of_row w g i cs t (0, 0) h
theorem Bk.frozen (h : Bk w g t cs) (i : Nat) : w.frozen? ⟨g, i, none⟩ = false := by
  unfold Bk at h
  simp [World.frozen?, h]
theorem Bk.put (h : Bk w g t cs) (i : Nat) (u : Value) : Bk (w.setCell ⟨g, i, none⟩ u) g t (cs.setIfInBounds i u) := by
  unfold Bk at h ⊢
  simp [World.setCell, Array.getElem?_modify, h]
theorem Bk.below {B : Nat} (h : Bk w g t cs) (hb : Below B w w') (hg : g < B) : Bk w' g t cs := (hb.block g hg).trans h
theorem Bk.rd {n size : Nat} {xs : List Value} (h : Bk w g t xs.toArray) (hl : xs.length = n * size) : Rd w (some ⟨g, 0, none⟩) n size xs :=
  ⟨hl, fun _ => ⟨g, 0, rfl, h.lt, fun j u hu => by rw [Nat.zero_add, h.cell]; simpa using hu⟩⟩
end

theorem Bk.new (w : World) (cs : Array Value) (t : TypeId) : Bk (w.alloc (.cells cs t)) w.heap.size t cs := heap_alloc_new w _
theorem Bk.new1 (w : World) (o : Obj) (cs : Array Value) (t : TypeId) : Bk ((w.alloc o).alloc (.cells cs t)) (w.heap.size + 1) t cs := by
  have := Bk.new (w.alloc o) cs t
  simpa using this
theorem Bk.new2 (w : World) (o o' : Obj) (cs : Array Value) (t : TypeId) : Bk (((w.alloc o).alloc o').alloc (.cells cs t)) (w.heap.size + 1 + 1) t cs := by
  have := Bk.new ((w.alloc o).alloc o') cs t
  simpa using this
/-- a row that is filled from its head: the first k elements stand -/
def Filled {α : Type} (f : α → List Value) (C : Array Value) (l : List α) (k : Nat) : Prop := ∀ (j : Nat) (u : Value), (rowOf f (l.take k))[j]? = some u → C[j]? = some u
theorem Filled.done {α : Type} {f : α → List Value} {size : Nat} (hf : ∀ a, (f a).length = size) {C : Array Value} {l : List α} {k : Nat} (h : Filled f C l k) (hk : l.length ≤ k) (hC : C.size = l.length * size) : C = (rowOf f l).toArray := by
  unfold Filled at h
  rw [List.take_of_length_le hk] at h
  apply Array.ext
  · simp [rowOf_length hf, hC]
  · intro i h1 h2
    have h3 : i < (rowOf f l).length := by simpa using h2
    have := h i _ (List.getElem?_eq_getElem h3)
    rw [Array.getElem?_eq_getElem h1] at this
    injection this with this
theorem Filled.zero {α : Type} (f : α → List Value) (C : Array Value) (l : List α) : Filled f C l 0 := fun j u h => by simp [rowOf] at h
/-- element k stored: the cells before it as they were, its own as they should be -/
theorem Filled.next {α : Type} {f : α → List Value} {size : Nat} (hf : ∀ a, (f a).length = size) {C C' : Array Value} {l : List α} {k : Nat} (h : Filled f C l k) (hk : k < l.length)
    (hold : ∀ j : Nat, j < k * size → C'[j]? = C[j]?) (hnew : ∀ (i : Nat) (u : Value), (f l[k])[i]? = some u → C'[k * size + i]? = some u) : Filled f C' l (k + 1) := by
  intro j u hu
  have hlen : (rowOf f (l.take k)).length = k * size := by rw [rowOf_length hf, List.length_take, Nat.min_eq_left (by omega)]
  rw [List.take_succ_eq_append_getElem hk, rowOf_append] at hu
  rcases Nat.lt_or_ge j (k * size) with hj | hj
  · rw [List.getElem?_append_left (by omega)] at hu
    rw [hold j hj]
    exact h j u hu
  · rw [List.getElem?_append_right (by omega), hlen] at hu
    have e : rowOf f [l[k]] = f l[k] := by simp [rowOf]
    rw [e] at hu
    have := hnew _ u hu
    rwa [show k * size + (j - k * size) = j by omega] at this
/-- two cells stored / three cells stored -/
theorem Filled.put2 {α : Type} {f : α → List Value} {C : Array Value} {l : List α} {k : Nat} {u v : Value} (hf : ∀ a, (f a).length = 2) (h : Filled f C l k) (hk : k < l.length) (hC : C.size = l.length * 2) (e : f l[k] = [u, v]) :
    Filled f ((C.setIfInBounds (k * 2) u).setIfInBounds (k * 2 + 1) v) l (k + 1) := by
  refine h.next hf hk (fun j hj => ?_) (fun i x hx => ?_)
  · rw [Array.getElem?_setIfInBounds_ne (by omega), Array.getElem?_setIfInBounds_ne (by omega)]
  · rw [e] at hx
    rcases i with _ | _ | i
    · rw [Array.getElem?_setIfInBounds_ne (by omega), Nat.add_zero, Array.getElem?_setIfInBounds_self_of_lt (by omega)]
      simpa using hx
    · rw [Array.getElem?_setIfInBounds_self_of_lt (by simp; omega)]
      simpa using hx
    · simp at hx
theorem Filled.put3 {α : Type} {f : α → List Value} {C : Array Value} {l : List α} {k : Nat} {u v z : Value} (hf : ∀ a, (f a).length = 3) (h : Filled f C l k) (hk : k < l.length) (hC : C.size = l.length * 3) (e : f l[k] = [u, v, z]) :
    Filled f (((C.setIfInBounds (k * 3) u).setIfInBounds (k * 3 + 1) v).setIfInBounds (k * 3 + 2) z) l (k + 1) := by
  refine h.next hf hk (fun j hj => ?_) (fun i x hx => ?_)
  · rw [Array.getElem?_setIfInBounds_ne (by omega), Array.getElem?_setIfInBounds_ne (by omega), Array.getElem?_setIfInBounds_ne (by omega)]
  · rw [e] at hx
    rcases i with _ | _ | _ | i
    · rw [Array.getElem?_setIfInBounds_ne (by omega), Array.getElem?_setIfInBounds_ne (by omega), Nat.add_zero, Array.getElem?_setIfInBounds_self_of_lt (by omega)]
      simpa using hx
    · rw [Array.getElem?_setIfInBounds_ne (by omega), Array.getElem?_setIfInBounds_self_of_lt (by simp; omega)]
      simpa using hx
    · rw [Array.getElem?_setIfInBounds_self_of_lt (by simp; omega)]
      simpa using hx
    · simp at hx
theorem Filled.put1 {α : Type} {f : α → List Value} {C : Array Value} {l : List α} {k : Nat} {u : Value} (hf : ∀ a, (f a).length = 1) (h : Filled f C l k) (hk : k < l.length) (hC : C.size = l.length * 1) (e : f l[k] = [u]) :
    Filled f (C.setIfInBounds (k * 1) u) l (k + 1) := by
  refine h.next hf hk (fun j hj => ?_) (fun i x hx => ?_)
  · rw [Array.getElem?_setIfInBounds_ne (by omega)]
  · rw [e] at hx
    rcases i with _ | i
    · rw [Nat.add_zero, Array.getElem?_setIfInBounds_self_of_lt (by omega)]
      simpa using hx
    · simp at hx

/-- make([]T, n), an element of any number of cells -/
theorem make_rows {P : Program} (t e : TypeId) (i : TypeInfo) (z : Value) (ht : P.underlying t = some (.slice e)) (hi : P.info? e = some i) (hz : i.zero = some z)
    (kl kc : IntKind) (n : Nat) (hbytes : i.bytes * n ≤ 281474976710656) (h63 : n ≤ 9223372036854775807) (w : World) :
    (Instr.makeSlice t (.int kl (n : Int)) (.int kc (n : Int))).run P w = .ok (.slice (some ⟨w.heap.size, 0, none⟩) n n) (w.alloc (.cells (madeCells z.cells (n * i.size)) e)) := by
  have hb : (i.bytes : Int) * (n : Int) ≤ 281474976710656 := by
    have h : ((i.bytes * n : Nat) : Int) ≤ 281474976710656 := by omega
    rwa [Int.natCast_mul] at h
  have hr := run_make (P := P) w t e i z ht hi hz kl kc n n (by omega) (by omega) hb (by omega)
  simp only [Int.toNat_natCast] at hr
  exact hr

section
variable {P : Program} {ops : Array Oper} {Q : Exit → Act → World → Prop} {md : Region.Mode} {S : World → Prop}
/-- one operation of a region that draws its order, taken: it is wanted and yields v / it is not wanted -/
theorem take_on {i : Nat} {oi : Oper} {v : Value} {fuel : Nat} {listed : Array Bool} {a : Act} {w : World} (hi : ops.toList[i]? = some oi)
    (hs : Region.noSelect ops = true) (hf : Region.free md ops listed i = true) (hr : (Region.ready md ops listed).contains i = true)
    (hQ : ∀ c a w, Q (.panic c) (a.put oi.dst v) w → Q (.panic c) a w) (hw : Region.wanted oi (yielded ops a.tmps) = true) (hy : ∀ w, S w → (execOp a.eval oi).run P w = .ok (.value v) w) (hS : S w)
    (h : wpAnyH P md ops Q S fuel (listed.setIfInBounds i true) (a.put oi.dst v) w) : wpAnyH P md ops Q S (fuel + 1) listed a w :=
  wpAnyH_take (by simpa using hi) hs hf hr hQ (.inl ⟨hw, hy⟩) hS h
theorem take_off {i : Nat} {oi : Oper} {fuel : Nat} {listed : Array Bool} {a : Act} {w : World} (hi : ops.toList[i]? = some oi)
    (hs : Region.noSelect ops = true) (hf : Region.free md ops listed i = true) (hr : (Region.ready md ops listed).contains i = true)
    (hQ : ∀ c a w, Q (.panic c) (a.put oi.dst undef) w → Q (.panic c) a w) (hw : Region.wanted oi (yielded ops a.tmps) = false) (hS : S w)
    (h : wpAnyH P md ops Q S fuel (listed.setIfInBounds i true) (a.put oi.dst undef) w) : wpAnyH P md ops Q S (fuel + 1) listed a w :=
  wpAnyH_take (by simpa using hi) hs hf hr hQ (.inr ⟨hw, rfl⟩) hS h
end

structure Sp where
  x : Int
  y : Int
  deriving DecidableEq
def spC (p : Sp) : List Value := [.int .i64 p.x, .int .i64 p.y]
theorem spC_len (p : Sp) : (spC p).length = 2 := rfl
theorem Rd.spot {w : World} {A : Option Addr} {n : Nat} {l : List Sp} (h : Rd w A n 2 (rowOf spC l)) (hn : l.length = n) {k : Nat} (hk : k < l.length) :
    ∃ b off, A = some ⟨b, off, none⟩ ∧ b < w.heap.size ∧ w.cell? ⟨b, off + k * 2, none⟩ = some (.int .i64 l[k].x) ∧ w.cell? ⟨b, off + k * 2 + 1, none⟩ = some (.int .i64 l[k].y) := by
  obtain ⟨b, off, e, hlt, hc⟩ := h.at spC_len hn hk
  exact ⟨b, off, e, hlt, hc 0 _ rfl, hc 1 _ rfl⟩
end Go.Proofs.YtgpmlpneffbbbaaDoor
