/-
  Slices of one's own: a list that grows by append, of any elements; what an append leaves as it was.
-/
import Derived.Test.YtgpmlpneffbbbaaDoorMem
import Derived.Deep.AppendLies
import Derived.Laws.OwnMore
namespace Go.Proofs.YtgpmlpneffbbbaaDoor
set_option linter.unusedSimpArgs false
set_option linter.unusedVariables false
set_option maxRecDepth 20000
open Go.RowKit
open Go.ChangeShapes Go.WideShapes Go.Deep Go.Joins

/-- elements: their cells, their type -/
structure Elem {α : Type} (f : α → List Value) (E : TypeId) (size bytes : Nat) : Prop where
  len : ∀ a, (f a).length = size
  one : ∀ a, ∀ u ∈ f a, u.oneCell' = true
  pos : 0 < size
  info : ∃ i z, Tryd.prog.info? E = some i ∧ i.zero = some z ∧ i.size = size ∧ i.bytes = bytes ∧ z.cells.size = size

/-- the slice v is one's own (nil, or at the head of a block from base on) and reads as the list -/
def Own {α : Type} (f : α → List Value) (E : TypeId) (size : Nat) (w : World) (base : Nat) (v : Value) (l : List α) : Prop := w.ownsRow base E size v l.length (rowOf f l)
section
variable {α : Type} {f : α → List Value} {E : TypeId} {size bytes : Nat} {w w' : World} {base : Nat} {v : Value} {l : List α}
theorem Own.nil (f : α → List Value) (E : TypeId) (size : Nat) (w : World) (base : Nat) : Own f E size w base (.slice none 0 0) [] := World.ownsRow_nil w base E size
theorem Own.lt (h : Own f E size w base v l) : ∀ k, v.ownBlock = some k → base ≤ k ∧ k < w.heap.size := World.ownsRow.lt h
theorem Own.rd (h : Own f E size w base v l) : ∃ A c, v = .slice A l.length c ∧ l.length ≤ c ∧ c ≤ 9223372036854775807 ∧ Rd w A l.length size (rowOf f l) := by
  rcases h.2 with ⟨rfl, h0⟩ | ⟨g, cap, cur, rfl, _, hg, hc, hm, hs, htk⟩
  · have hl : l = [] := List.eq_nil_of_length_eq_zero h0
    subst hl
    exact ⟨none, 0, rfl, Nat.le_refl _, by omega, Rd.nil _ _ _⟩
  · refine ⟨_, _, rfl, hc, by unfold maxLen at hm; omega, h.1, fun _ => ⟨g, 0, rfl, (Array.getElem?_eq_some_iff.1 hg).1, fun j u hu => ?_⟩⟩
    rw [Nat.zero_add, cell_of_row w g j cur E (0, 0) hg]
    rw [← htk, List.getElem?_take] at hu
    split at hu
    · simpa using hu
    · cases hu
/-- what is said of v's own block alone -/
theorem Own.of_block (h : Own f E size w base v l) (hb : ∀ k, v.ownBlock = some k → w'.heap[k]? = w.heap[k]?) : Own f E size w' base v l := by
  refine ⟨h.1, ?_⟩
  rcases h.2 with ⟨rfl, h0⟩ | ⟨g, cap, cur, rfl, hg, hg2, rest⟩
  · exact .inl ⟨rfl, h0⟩
  · exact .inr ⟨g, cap, cur, rfl, hg, (hb g rfl).trans hg2, rest⟩
theorem Own.below {B : Nat} (h : Own f E size w base v l) (hb : Below B w w') (hB : ∀ k, v.ownBlock = some k → k < B) : Own f E size w' base v l := h.of_block fun k hk => hb.block k (hB k hk)
theorem Own.next (h : Own f E size w base v l) (hb : Below w.heap.size w w') : Own f E size w' base v l := h.below hb fun k hk => (h.lt k hk).2
theorem Own.alloc (h : Own f E size w base v l) (o : Obj) : Own f E size (w.alloc o) base v l := World.ownsRow.alloc h o
theorem Own.drew (h : Own f E size w base v l) : Own f E size w.drew base v l := h
theorem Own.mono {b' : Nat} (h : Own f E size w base v l) (hb : b' ≤ base) : Own f E size w b' v l := by
  refine ⟨h.1, ?_⟩
  rcases h.2 with h2 | ⟨g, cap, cur, hv, hg, r⟩
  · exact .inl h2
  · exact .inr ⟨g, cap, cur, hv, by omega, r⟩
theorem Own.kept {row : Option Nat} (h : Own f E size w base v l) (hg : w.grownBy w' row) (hne : ∀ k, v.ownBlock = some k → some k ≠ row) : Own f E size w' base v l :=
  h.of_block fun k hk => hg.block k (h.lt k hk).2 (hne k hk)
/-- a row that the call has just laid whole -/
theorem Own.of_bk {g : Nat} (h : Bk w g E (rowOf f l).toArray) (hf : ∀ a, (f a).length = size) (hm : l.length ≤ maxLen) (hb : base ≤ g) : Own f E size w base (.slice (some ⟨g, 0, none⟩) l.length l.length) l := by
  have hl := rowOf_length hf l
  exact ⟨hl, .inr ⟨g, l.length, (rowOf f l).toArray, rfl, hb, h, Nat.le_refl _, hm, by simpa using hl, List.take_of_length_le (by simp [hl])⟩⟩
/-- the cells of element k -/
theorem Own.at (h : Own f E size w base v l) (hf : ∀ a, (f a).length = size) {k : Nat} (hk : k < l.length) :
    ∃ g c, v = .slice (some ⟨g, 0, none⟩) l.length c ∧ base ≤ g ∧ g < w.heap.size ∧ ∀ i u, (f l[k])[i]? = some u → w.cell? ⟨g, k * size + i, none⟩ = some u := by
  obtain ⟨g, c, hv, hb, hg⟩ := World.ownsRow.form h (by omega)
  obtain ⟨A, c', hv', _, _, hr⟩ := h.rd
  rw [hv] at hv'
  injection hv' with e1 e2 e3
  obtain ⟨b, off, e4, _, hc⟩ := hr.at hf rfl hk
  rw [e4] at e1
  injection e1 with e1
  injection e1 with e5 e6
  subst e5; subst e6
  exact ⟨g, c, hv, hb, hg, fun i u hu => by have := hc i u hu; rwa [Nat.zero_add] at this⟩
end

section
variable {P : Program} {w : World}
/-- an append leaves all old cells but those behind the old row's end -/
theorem append_keeps (t ty : TypeId) (base : Nat) (e : TypeId) (i : TypeInfo) (z : Value) (size bytes : Nat) (ht : P.underlying t = some (.slice e)) (hi : P.info? e = some i) (hz : i.zero = some z)
    (hsize : i.size = size) (hby : i.bytes = bytes) (v : Value) (n : Nat) (xs : List Value) (hown : w.ownsRow base e size v n xs)
    (ad : Addr) (m c : Nat) (news : List Value) (hl : news.length = m * size) (hnews : ∀ j u, news[j]? = some u → w.cell? (ad.add j) = some u) (h1 : ∀ u ∈ news, u.oneCell' = true)
    (h63 : n + m ≤ maxLen) (hbytes : (n + m) * bytes ≤ 140737488355328) {v' : Value} {w' : World}
    (hr : (Builtin.append_ #[t, t] ty #[v, .slice (some ad) m c]).run P w = .ok v' w') (hown' : w'.ownsRow base e size v' (n + m) (xs ++ news)) (hg : w.grownBy w' v.ownBlock) :
    ∀ b o, b < w.heap.size → (v.ownBlock = some b → o < n * size) → w'.cell? ⟨b, o, none⟩ = w.cell? ⟨b, o, none⟩ := by
  intro b o hb ho
  by_cases hvb : v.ownBlock = some b
  · replace ho := ho hvb; have ho' := ho
    subst hsize hby
    rcases hown.2 with ⟨rfl, rfl⟩ | ⟨g, cap, cur, rfl, hbg, hgg, hnc, hcm, hcs, htake⟩
    · simp [Value.ownBlock] at hvb
    · have hgb : g = b := by simpa [Value.ownBlock] using hvb
      subst hgb
      have hox : o < xs.length := by rw [hown.1]; exact ho'
      have hold := hown.cells (g := g) rfl o _ (List.getElem?_eq_getElem hox)
      have hadd : (⟨g, 0, none⟩ : Addr).add o = ⟨g, o, none⟩ := by unfold Addr.add; split <;> simp_all
      rw [hadd] at hold
      by_cases hroom : n + m ≤ cap
      · have hfit : n * i.size + news.length ≤ cur.size := by rw [hl, hcs, ← Nat.add_mul]; exact Nat.mul_le_mul_right _ hroom
        have hr2 := run_append_room (P := P) w t ty e i ht hi g n cap cur hgg ad m c news hl hnews h1 hroom hfit
        rw [hr] at hr2
        injection hr2 with hv2 hw2
        subst hv2
        have hnew := hown'.cells (g := g) rfl o xs[o] (by rw [List.getElem?_append_left hox]; exact List.getElem?_eq_getElem hox)
        rw [hadd] at hnew
        rw [hnew, hold]
      · have holds : ∀ j u, xs[j]? = some u → w.cell? ((⟨g, 0, none⟩ : Addr).add j) = some u := hown.cells (g := g) rfl
        have hsmall : n + m ≤ 9223372036854775807 := by simp only [maxLen] at h63; omega
        have hr2 := run_append_grow (P := P) w t ty e i z ht hi hz ⟨g, 0, none⟩ n cap xs hown.1 holds ad m c news hl hnews (by omega) (by omega) (growslice_fits (by omega) hbytes)
        rw [hr] at hr2
        injection hr2 with hv2 hw2
        subst hw2
        exact World.cell?_of_block (Below.heap_alloc w.drew _ g hb)
  · exact hg.cell_far ⟨b, o, none⟩ hb (fun e => hvb e.symm)
end

section
variable {α : Type} {f : α → List Value} {E : TypeId} {size bytes : Nat} {w : World}
/-- one element appended to a row of one's own -/
theorem run_push (he : Elem f E size bytes) (t ty : TypeId) (ht : Tryd.prog.underlying t = some (.slice E)) (base : Nat) (v : Value) (l : List α) (y : α) (hown : Own f E size w base v l) (n : Nat) (hln : l.length = n)
    (B c : Nat) (hB : ∀ j u, (f y)[j]? = some u → w.cell? ⟨B, j, none⟩ = some u) (h63 : n + 1 ≤ maxLen) (hbytes : (n + 1) * bytes ≤ 140737488355328) (hbase : base ≤ w.heap.size) :
    ∃ g cap w', (Builtin.append_ #[t, t] ty #[v, .slice (some ⟨B, 0, none⟩) 1 c]).run Tryd.prog w = .ok (.slice (some ⟨g, 0, none⟩) (n + 1) cap) w' ∧ Own f E size w' base (.slice (some ⟨g, 0, none⟩) (n + 1) cap) (l ++ [y]) ∧
      w.grownBy w' v.ownBlock ∧ (v.ownBlock = some g ∨ g = w.heap.size) ∧ g < w'.heap.size ∧ (∀ b o, b < w.heap.size → (v.ownBlock = some b → o < n * size) → w'.cell? ⟨b, o, none⟩ = w.cell? ⟨b, o, none⟩) := by
  obtain ⟨i, z, hi, hz, hsize, hby, hzs⟩ := he.info
  subst hln
  have hnews : ∀ j u, (f y)[j]? = some u → w.cell? ((⟨B, 0, none⟩ : Addr).add j) = some u := fun j u hu => by
    have hadd : (⟨B, 0, none⟩ : Addr).add j = ⟨B, j, none⟩ := by unfold Addr.add; split <;> simp_all
    rw [hadd]
    exact hB j u hu
  obtain ⟨g, cap, w', hr, h2, h3, h4, h5⟩ := run_append_lies (P := Tryd.prog) w t ty base E i z size bytes ht hi hz hsize hby hzs he.pos v l.length (rowOf f l) hown ⟨B, 0, none⟩ 1 c (f y) (by rw [he.len, Nat.one_mul]) hnews (he.one y) (by omega) h63 hbytes hbase _ rfl
  refine ⟨g, cap, w', hr, ?_, h3, h4, h5, append_keeps t ty base E i z size bytes ht hi hz hsize hby v l.length (rowOf f l) hown ⟨B, 0, none⟩ 1 c (f y) (by rw [he.len, Nat.one_mul]) hnews (he.one y) h63 hbytes hr h2 h3⟩
  have e : rowOf f (l ++ [y]) = rowOf f l ++ f y := by rw [rowOf_append]; simp [rowOf]
  unfold Own
  rw [e, List.length_append]
  exact h2

theorem wp_push (he : Elem f E size bytes) {o : Oper} {a : Act} {K : Act → World → Prop} {Q : Exit → Act → World → Prop} (s x : Operand) (t : TypeId)
    (ho : o.op = .call { callee := .builtin .append, args := #[s, x], argTypes := #[t, t] }) (ht : Tryd.prog.underlying t = some (.slice E)) (base : Nat) (v : Value) (l : List α) (y : α) (hs : a.eval s = v) (hown : Own f E size w base v l) (n : Nat) (hln : l.length = n)
    (B c : Nat) (hx : a.eval x = .slice (some ⟨B, 0, none⟩) 1 c) (hB : ∀ j u, (f y)[j]? = some u → w.cell? ⟨B, j, none⟩ = some u) (h63 : n + 1 ≤ maxLen) (hbytes : (n + 1) * bytes ≤ 140737488355328) (hbase : base ≤ w.heap.size)
    (h : ∀ g cap w', Own f E size w' base (.slice (some ⟨g, 0, none⟩) (n + 1) cap) (l ++ [y]) → w.grownBy w' v.ownBlock → (v.ownBlock = some g ∨ g = w.heap.size) → g < w'.heap.size →
      (∀ b o, b < w.heap.size → (v.ownBlock = some b → o < n * size) → w'.cell? ⟨b, o, none⟩ = w.cell? ⟨b, o, none⟩) → K (a.put o.dst (.slice (some ⟨g, 0, none⟩) (n + 1) cap)) w') : o.wp Tryd.prog a w K Q := by
  obtain ⟨g, cap, w', hr, h2, h3, h4, h5, h6⟩ := run_push he t o.type ht base v l y hown n hln B c hB h63 hbytes hbase
  unfold Oper.wp execOp
  simp only [ho, resolve, invoke, builtin, Sem.run_bind, Sem.run_pure, Result.andThen_ok, List.map_toArray, List.map_cons, List.map_nil, hs, hx, hr]
  exact h g cap w' h2 h3 h4 h5 h6

/-- in a plain region -/
theorem list_push (he : Elem f E size bytes) {ops : Array Oper} {rest : List Oper} {o : Oper} {a : Act} {Q : Exit → Act → World → Prop} (hgd : o.guard = none) (s x : Operand) (t : TypeId)
    (ho : o.op = .call { callee := .builtin .append, args := #[s, x], argTypes := #[t, t] }) (ht : Tryd.prog.underlying t = some (.slice E)) (base : Nat) (v : Value) (l : List α) (y : α) (hs : a.eval s = v) (hown : Own f E size w base v l) (n : Nat) (hln : l.length = n)
    (B c : Nat) (hx : a.eval x = .slice (some ⟨B, 0, none⟩) 1 c) (hB : ∀ j u, (f y)[j]? = some u → w.cell? ⟨B, j, none⟩ = some u) (h63 : n + 1 ≤ maxLen) (hbytes : (n + 1) * bytes ≤ 140737488355328) (hbase : base ≤ w.heap.size)
    (h : ∀ g cap w', Own f E size w' base (.slice (some ⟨g, 0, none⟩) (n + 1) cap) (l ++ [y]) → w.grownBy w' v.ownBlock → (v.ownBlock = some g ∨ g = w.heap.size) → g < w'.heap.size →
      (∀ b o, b < w.heap.size → (v.ownBlock = some b → o < n * size) → w'.cell? ⟨b, o, none⟩ = w.cell? ⟨b, o, none⟩) → wpList Tryd.prog ops Q rest (a.put o.dst (.slice (some ⟨g, 0, none⟩) (n + 1) cap)) w') : wpList Tryd.prog ops Q (o :: rest) a w :=
  wpList_plain hgd fun _ hK => wp_push he s x t ho ht base v l y hs hown n hln B c hx hB h63 hbytes hbase fun g cap w' h2 h3 h4 h5 h6 => hK _ _ (h g cap w' h2 h3 h4 h5 h6)

/-- at a step of a region that draws its order -/
theorem step_push (he : Elem f E size bytes) {ops : Array Oper} {o : Oper} {a : Act} {K : Act → World → Prop} {Q : Exit → Act → World → Prop} {F : Prop} (hgd : o.guard = none) (s x : Operand) (t : TypeId)
    (ho : o.op = .call { callee := .builtin .append, args := #[s, x], argTypes := #[t, t] }) (ht : Tryd.prog.underlying t = some (.slice E)) (base : Nat) (v : Value) (l : List α) (y : α) (hs : a.eval s = v) (hown : Own f E size w base v l) (n : Nat) (hln : l.length = n)
    (B c : Nat) (hx : a.eval x = .slice (some ⟨B, 0, none⟩) 1 c) (hB : ∀ j u, (f y)[j]? = some u → w.cell? ⟨B, j, none⟩ = some u) (h63 : n + 1 ≤ maxLen) (hbytes : (n + 1) * bytes ≤ 140737488355328) (hbase : base ≤ w.heap.size)
    (h : ∀ g cap w', Own f E size w' base (.slice (some ⟨g, 0, none⟩) (n + 1) cap) (l ++ [y]) → w.grownBy w' v.ownBlock → (v.ownBlock = some g ∨ g = w.heap.size) → g < w'.heap.size →
      (∀ b o, b < w.heap.size → (v.ownBlock = some b → o < n * size) → w'.cell? ⟨b, o, none⟩ = w.cell? ⟨b, o, none⟩) → K (a.put o.dst (.slice (some ⟨g, 0, none⟩) (n + 1) cap)) w') :
    if Region.wanted o (yielded ops a.tmps) = true then Oper.wp Tryd.prog o a w K Q else F := by
  have hw : Region.wanted o (yielded ops a.tmps) = true := by simp [Region.wanted, hgd]
  rw [if_pos hw]
  exact wp_push he s x t ho ht base v l y hs hown n hln B c hx hB h63 hbytes hbase h
end

/-- integers -/
def iC (n : Int) : List Value := [.int .i64 n]
theorem elem_int : Elem iC 2 1 8 where
  len _ := rfl
  one a u hu := by simp [iC] at hu; subst hu; rfl
  pos := by omega
  info := by
    have h : (Tryd.prog.info? 2).map (fun i => (i.zero, i.size, i.bytes)) = some (some (.int .i64 0), 1, 8) := by kernel_rfl
    obtain ⟨i, h1, h2, h3, h4⟩ := info_parts h
    exact ⟨i, _, h1, h2, h3, h4, rfl⟩
theorem iC_len (n : Int) : (iC n).length = 1 := rfl

/-- the condition of a drawn region that reads a row of one's own (block g, the first k cells) and appends to it: below W0's end all reads as in W0, but for what lies behind the row's end -/
theorem SA.mk {W0 w' : World} {g k B : Nat} (h : Below W0.heap.size W0 w') (hB : B ≤ W0.heap.size) :
    (∀ kb ko, kb < W0.heap.size → (kb = g → ko < k) → w'.cell? ⟨kb, ko, none⟩ = W0.cell? ⟨kb, ko, none⟩) ∧ W0.heap.size ≤ w'.heap.size ∧ Below B W0 w' :=
  ⟨fun kb ko hk _ => h.cell (p := ⟨kb, ko, none⟩) hk, h.size, h.mono hB⟩
theorem SA.push {W0 w w' : World} {g k m B : Nat} {v : Value} (h : (∀ kb ko, kb < W0.heap.size → (kb = g → ko < k) → w.cell? ⟨kb, ko, none⟩ = W0.cell? ⟨kb, ko, none⟩) ∧ W0.heap.size ≤ w.heap.size ∧ Below B W0 w)
    (hv : v.ownBlock = some g) (hg : w.grownBy w' v.ownBlock) (hk : ∀ b o, b < w.heap.size → (v.ownBlock = some b → o < m) → w'.cell? ⟨b, o, none⟩ = w.cell? ⟨b, o, none⟩) (hkm : k ≤ m) (hBg : B ≤ g) (hBw : B ≤ w.heap.size) :
    (∀ kb ko, kb < W0.heap.size → (kb = g → ko < k) → w'.cell? ⟨kb, ko, none⟩ = W0.cell? ⟨kb, ko, none⟩) ∧ W0.heap.size ≤ w'.heap.size ∧ Below B W0 w' := by
  refine ⟨fun kb ko h1 h2 => ?_, Nat.le_trans h.2.1 hg.size, h.2.2.grown hg hBw (fun k hk => by rw [hv] at hk; injection hk with hk; omega)⟩
  rw [hk kb ko (Nat.lt_of_lt_of_le h1 h.2.1) (fun e => by rw [hv] at e; injection e with e; have := h2 e.symm; omega)]
  exact h.1 kb ko h1 h2
end Go.Proofs.YtgpmlpneffbbbaaDoor
