/-
  Inks in memory: a slice of strokes, each a slice of points; of one's own, with all rows apart.
-/
import Derived.Test.YtnmmnikoogjhoaaMarkP
import Derived.Test.YtnmmnikoogjhoaaOpen
import Derived.Test.YtnmmnikoogjhoaaPtsEq
namespace Go.Proofs.Ytnmmnikoogjhoaa
set_option linter.unusedSimpArgs false
set_option linter.unusedVariables false
set_option maxRecDepth 20000
open Go.RowKit
open Go.ChangeShapes Go.WideShapes Go.Deep Go.Joins

def St.val (s : St) : Value := .slice s.A s.l.length s.c
def skC (s : St) : List Value := [s.val]
theorem skC_len (s : St) : (skC s).length = 1 := rfl
instance : Inhabited St := ⟨⟨none, 0, []⟩⟩
theorem stroke_info : (Try.prog.info? 52).map (fun i => (i.zero, i.size, i.bytes)) = some (some (.agg #[.slice none 0 0]), 1, 24) := by kernel_rfl
theorem elem_sk : Elem skC 52 1 24 where
  len _ := rfl
  one a u hu := by simp [skC, St.val] at hu; subst hu; rfl
  pos := by omega
  info := by
    obtain ⟨i, h1, h2, h3, h4⟩ := info_parts stroke_info
    exact ⟨i, _, h1, h2, h3, h4, rfl⟩
/-- the points -/
def ptsOf (S : List St) : List (List Pt) := S.map (·.l)

/-- an ink that reads so -/
structure InkRd (w : World) (A : Option Addr) (n : Nat) (S : List St) : Prop where
  len : S.length = n
  row : Rd w A n 1 (rowOf skC S)
  pts : ∀ s ∈ S, Rd w s.A s.l.length 3 (rowOf ptC s.l)
theorem InkRd.below {w w' : World} {A : Option Addr} {n : Nat} {S : List St} (h : InkRd w A n S) (hb : Below w.heap.size w w') : InkRd w' A n S :=
  ⟨h.len, h.row.below hb, fun s hs => (h.pts s hs).below hb⟩
theorem InkRd.alloc {w : World} {A : Option Addr} {n : Nat} {S : List St} (h : InkRd w A n S) (o : Obj) : InkRd (w.alloc o) A n S := h.below ((Below.refl _ _).alloc (Nat.le_refl _) o)
theorem InkRd.drew {w : World} {A : Option Addr} {n : Nat} {S : List St} (h : InkRd w A n S) : InkRd w.drew A n S := ⟨h.len, h.row, h.pts⟩
/-- stroke k: its header's cell, its points -/
theorem InkRd.at {w : World} {A : Option Addr} {n : Nat} {S : List St} (h : InkRd w A n S) {k : Nat} (hk : k < S.length) :
    ∃ b off, A = some ⟨b, off, none⟩ ∧ b < w.heap.size ∧ w.cell? ⟨b, off + k, none⟩ = some (.slice S[k].A S[k].l.length S[k].c) ∧ Rd w S[k].A S[k].l.length 3 (rowOf ptC S[k].l) := by
  obtain ⟨b, off, e, hlt, hc⟩ := h.row.at skC_len h.len hk
  exact ⟨b, off, e, hlt, by simpa [St.val] using hc 0 _ rfl, h.pts _ (List.getElem_mem hk)⟩

/-- rows apart: no two strokes lie in one block -/
def Apt (s t : St) : Prop := ∀ k, s.val.ownBlock = some k → t.val.ownBlock ≠ some k
/-- the strokes' rows are one's own, in blocks from lo to hi, apart -/
structure Inner (w : World) (lo hi : Nat) (S : List St) : Prop where
  own : ∀ s ∈ S, Own ptC 72 3 w lo s.val s.l
  top : ∀ s ∈ S, ∀ k, s.val.ownBlock = some k → k < hi
  apt : S.Pairwise Apt
theorem Inner.nil (w : World) (lo hi : Nat) : Inner w lo hi [] := ⟨fun s hs => by simp at hs, fun s hs => by simp at hs, List.Pairwise.nil⟩
theorem Inner.keep {w w' : World} {lo hi : Nat} {S : List St} (h : Inner w lo hi S) (hb : ∀ k, lo ≤ k → k < hi → k < w.heap.size → w'.heap[k]? = w.heap[k]?) : Inner w' lo hi S :=
  ⟨fun s hs => (h.own s hs).of_block fun k hk => hb k ((h.own s hs).lt k hk).1 (h.top s hs k hk) ((h.own s hs).lt k hk).2, h.top, h.apt⟩
theorem Inner.next {w w' : World} {lo hi : Nat} {S : List St} (h : Inner w lo hi S) (hb : Below w.heap.size w w') : Inner w' lo hi S := h.keep fun k _ _ hk => hb.block k hk
theorem Inner.mono {w : World} {lo hi hi' : Nat} {S : List St} (h : Inner w lo hi S) (hh : hi ≤ hi') : Inner w lo hi' S := ⟨h.own, fun s hs k hk => Nat.lt_of_lt_of_le (h.top s hs k hk) hh, h.apt⟩
theorem Inner.low {w : World} {lo lo' hi : Nat} {S : List St} (h : Inner w lo hi S) (hh : lo' ≤ lo) : Inner w lo' hi S := ⟨fun s hs => (h.own s hs).mono hh, h.top, h.apt⟩
theorem Inner.push {w : World} {lo hi hi' : Nat} {S : List St} {t : St} (h : Inner w lo hi S) (ht : Own ptC 72 3 w lo t.val t.l) (hlo : ∀ k, t.val.ownBlock = some k → hi ≤ k) (hhi : ∀ k, t.val.ownBlock = some k → k < hi') (hh : hi ≤ hi') :
    Inner w lo hi' (S ++ [t]) := by
  refine ⟨fun s hs => ?_, fun s hs k hk => ?_, ?_⟩
  · rw [List.mem_append, List.mem_singleton] at hs
    rcases hs with hs | rfl
    · exact h.own s hs
    · exact ht
  · rw [List.mem_append, List.mem_singleton] at hs
    rcases hs with hs | rfl
    · exact Nat.lt_of_lt_of_le (h.top s hs k hk) hh
    · exact hhi k hk
  · rw [List.pairwise_append]
    refine ⟨h.apt, List.pairwise_singleton _ _, fun s hs u hu => ?_⟩
    rw [List.mem_singleton] at hu
    subst hu
    intro k hk he
    have h1 := h.top s hs k hk
    have h2 := hlo k he
    omega
/-- an ink of one's own: the row of strokes, too -/
structure InkOwn (w : World) (lo hi : Nat) (v : Value) (S : List St) : Prop where
  row : Own skC 52 1 w lo v S
  top : ∀ k, v.ownBlock = some k → k < hi
  inner : Inner w lo hi S
  apt : ∀ s ∈ S, ∀ k, s.val.ownBlock = some k → v.ownBlock ≠ some k
theorem InkOwn.keep {w w' : World} {lo hi : Nat} {v : Value} {S : List St} (h : InkOwn w lo hi v S) (hb : ∀ k, lo ≤ k → k < hi → k < w.heap.size → w'.heap[k]? = w.heap[k]?) : InkOwn w' lo hi v S :=
  ⟨h.row.of_block fun k hk => hb k (h.row.lt k hk).1 (h.top k hk) (h.row.lt k hk).2, h.top, h.inner.keep hb, h.apt⟩
theorem InkOwn.next {w w' : World} {lo hi : Nat} {v : Value} {S : List St} (h : InkOwn w lo hi v S) (hb : Below w.heap.size w w') : InkOwn w' lo hi v S := h.keep fun k _ _ hk => hb.block k hk
theorem InkOwn.rd {w : World} {lo hi : Nat} {A : Option Addr} {n c : Nat} {S : List St} (h : InkOwn w lo hi (.slice A n c) S) (hn : S.length = n) : InkRd w A n S :=
  ⟨hn, h.row.rdS hn, fun s hs => by have := (h.inner.own s hs).rdS (A := s.A) (n := s.l.length) (c := s.c) rfl; exact this⟩
theorem InkOwn.drew {w : World} {lo hi : Nat} {v : Value} {S : List St} (h : InkOwn w lo hi v S) : InkOwn w.drew lo hi v S := h.keep fun _ _ _ _ => rfl
theorem InkOwn.alloc {w : World} {lo hi : Nat} {v : Value} {S : List St} (h : InkOwn w lo hi v S) (o : Obj) : InkOwn (w.alloc o) lo hi v S := h.next ((Below.refl _ _).alloc (Nat.le_refl _) o)
theorem InkOwn.nil (w : World) (lo hi : Nat) : InkOwn w lo hi (.slice none 0 0) [] := ⟨Own.nil _ _ _ _ _, fun k hk => by simp [Value.ownBlock] at hk, Inner.nil _ _ _, fun s hs => by simp at hs⟩

theorem InkOwn.low {w : World} {lo lo' hi : Nat} {v : Value} {S : List St} (h : InkOwn w lo hi v S) (hh : lo' ≤ lo) : InkOwn w lo' hi v S := ⟨h.row.mono hh, h.top, h.inner.low hh, h.apt⟩

/-- blocks from lo to hi alone have changed -/
structure Chg (lo hi : Nat) (w w' : World) : Prop where
  os : w'.os = w.os
  tape : w'.tape = w.tape
  output : w'.output = w.output
  size : w.heap.size ≤ w'.heap.size
  block : ∀ k, k < w.heap.size → (k < lo ∨ hi ≤ k) → w'.heap[k]? = w.heap[k]?
theorem Chg.refl (lo hi : Nat) (w : World) : Chg lo hi w w := ⟨rfl, rfl, rfl, Nat.le_refl _, fun _ _ _ => rfl⟩
theorem Chg.trans {lo hi : Nat} {a b c : World} (h : Chg lo hi a b) (k : Chg lo hi b c) : Chg lo hi a c :=
  ⟨k.os.trans h.os, k.tape.trans h.tape, k.output.trans h.output, Nat.le_trans h.size k.size, fun i hi hn => (k.block i (Nat.lt_of_lt_of_le hi h.size) hn).trans (h.block i hi hn)⟩
theorem Chg.of_grown {lo hi : Nat} {w w' : World} {v : Value} (h : w.grownBy w' v.ownBlock) (hlo : ∀ k, v.ownBlock = some k → lo ≤ k ∧ k < hi) : Chg lo hi w w' :=
  ⟨h.os, h.tape, h.output, h.size, fun k hk hn => h.block k hk (fun e => by have := hlo k e.symm; omega)⟩
theorem Chg.of_below {lo hi : Nat} {w w' : World} (h : Below w.heap.size w w') : Chg lo hi w w' := ⟨h.os, h.tape, h.output, h.size, fun k hk _ => h.block k hk⟩
theorem Chg.below {lo hi : Nat} {w w' : World} (h : Chg lo hi w w') (hl : lo ≤ w.heap.size) : Below lo w w' := ⟨h.os, h.tape, h.output, h.size, fun k hk => h.block k (by omega) (.inl hk)⟩
theorem Chg.cell {lo hi : Nat} {w w' : World} (h : Chg lo hi w w') {b : Nat} (o : Nat) (hb : b < w.heap.size) (hn : b < lo ∨ hi ≤ b) : w'.cell? ⟨b, o, none⟩ = w.cell? ⟨b, o, none⟩ := World.cell?_of_block (h.block b hb hn)
theorem InkOwn.chg {w w' : World} {lo hi lo' hi' : Nat} {v : Value} {S : List St} (h : InkOwn w lo hi v S) (hc : Chg lo' hi' w w') (hd : hi ≤ lo' ∨ hi' ≤ lo) : InkOwn w' lo hi v S :=
  h.keep fun k h1 h2 h3 => hc.block k h3 (by omega)
end Go.Proofs.Ytnmmnikoogjhoaa
