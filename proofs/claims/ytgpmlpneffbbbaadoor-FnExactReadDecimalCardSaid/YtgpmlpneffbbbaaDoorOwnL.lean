/-
  A whole list appended to a row of one's own.
-/
import Derived.Test.YtgpmlpneffbbbaaDoorS2
namespace Go.Proofs.YtgpmlpneffbbbaaDoor
set_option linter.unusedSimpArgs false
set_option linter.unusedVariables false
set_option maxRecDepth 20000
open Go.RowKit
open Go.ChangeShapes Go.WideShapes Go.Deep Go.Joins

section
variable {α : Type} {f : α → List Value} {E : TypeId} {size bytes : Nat} {w : World}
theorem rowOf_one {P : Value → Prop} (he : ∀ a, ∀ u ∈ f a, P u) (l : List α) : ∀ u ∈ rowOf f l, P u := fun u hu => by
  obtain ⟨a, _, h⟩ := List.mem_flatMap.1 hu
  exact he a u h
/-- a list appended to a row of one's own -/
theorem run_pushes (he : Elem f E size bytes) (t ty : TypeId) (ht : Tryd.prog.underlying t = some (.slice E)) (base : Nat) (v : Value) (l ys : List α) (hown : Own f E size w base v l) (n m : Nat) (hln : l.length = n) (hm : ys.length = m) (h0 : 0 < m)
    (A : Option Addr) (c : Nat) (hy : Rd w A m size (rowOf f ys)) (h63 : n + m ≤ maxLen) (hbytes : (n + m) * bytes ≤ 140737488355328) (hbase : base ≤ w.heap.size) :
    ∃ g cap w', (Builtin.append_ #[t, t] ty #[v, .slice A m c]).run Tryd.prog w = .ok (.slice (some ⟨g, 0, none⟩) (n + m) cap) w' ∧ Own f E size w' base (.slice (some ⟨g, 0, none⟩) (n + m) cap) (l ++ ys) ∧
      w.grownBy w' v.ownBlock ∧ (v.ownBlock = some g ∨ g = w.heap.size) ∧ g < w'.heap.size := by
  obtain ⟨i, z, hi, hz, hsize, hby, hzs⟩ := he.info
  obtain ⟨b1, o1, rfl, _, hc⟩ := hy.2 h0
  subst hln
  subst hm
  have hnews : ∀ j u, (rowOf f ys)[j]? = some u → w.cell? ((⟨b1, o1, none⟩ : Addr).add j) = some u := fun j u hu => by
    have hadd : (⟨b1, o1, none⟩ : Addr).add j = ⟨b1, o1 + j, none⟩ := by unfold Addr.add; split <;> simp_all
    rw [hadd]
    exact hc j u hu
  obtain ⟨g, cap, w', hr, h2, h3, h4, h5⟩ := run_append_lies (P := Tryd.prog) w t ty base E i z size bytes ht hi hz hsize hby hzs he.pos v l.length (rowOf f l) hown ⟨b1, o1, none⟩ ys.length c (rowOf f ys) (rowOf_length he.len ys) hnews (rowOf_one he.one ys) h0 h63 hbytes hbase _ rfl
  refine ⟨g, cap, w', hr, ?_, h3, h4, h5⟩
  unfold Own
  rw [rowOf_append, List.length_append]
  exact h2
theorem list_pushes (he : Elem f E size bytes) {ops : Array Oper} {rest : List Oper} {o : Oper} {a : Act} {Q : Exit → Act → World → Prop} (hgd : o.guard = none) (s x : Operand) (t : TypeId)
    (ho : o.op = .call { callee := .builtin .append, args := #[s, x], argTypes := #[t, t] }) (ht : Tryd.prog.underlying t = some (.slice E)) (base : Nat) (v : Value) (l ys : List α) (hs : a.eval s = v) (hown : Own f E size w base v l) (n m : Nat) (hln : l.length = n) (hm : ys.length = m) (h0 : 0 < m)
    (A : Option Addr) (c : Nat) (hx : a.eval x = .slice A m c) (hy : Rd w A m size (rowOf f ys)) (h63 : n + m ≤ maxLen) (hbytes : (n + m) * bytes ≤ 140737488355328) (hbase : base ≤ w.heap.size)
    (h : ∀ g cap w', Own f E size w' base (.slice (some ⟨g, 0, none⟩) (n + m) cap) (l ++ ys) → w.grownBy w' v.ownBlock → (v.ownBlock = some g ∨ g = w.heap.size) → g < w'.heap.size → wpList Tryd.prog ops Q rest (a.put o.dst (.slice (some ⟨g, 0, none⟩) (n + m) cap)) w') : wpList Tryd.prog ops Q (o :: rest) a w :=
  wpList_plain hgd fun _ hK => by
    obtain ⟨g, cap, w', hr, h2, h3, h4, h5⟩ := run_pushes he t o.type ht base v l ys hown n m hln hm h0 A c hy h63 hbytes hbase
    unfold Oper.wp execOp
    simp only [ho, resolve, invoke, builtin, Sem.run_bind, Sem.run_pure, Result.andThen_ok, List.map_toArray, List.map_cons, List.map_nil, hs, hx, hr]
    exact hK _ _ (h g cap w' h2 h3 h4 h5)
/-- the same where the row or the list is not empty, the list at an address -/
theorem run_pushes2 (he : Elem f E size bytes) (t ty : TypeId) (ht : Tryd.prog.underlying t = some (.slice E)) (base : Nat) (v : Value) (l ys : List α) (hown : Own f E size w base v l) (n m : Nat) (hln : l.length = n) (hm : ys.length = m) (h0 : 0 < n + m)
    (b1 o1 c : Nat) (hy : ∀ j u, (rowOf f ys)[j]? = some u → w.cell? ⟨b1, o1 + j, none⟩ = some u) (h63 : n + m ≤ maxLen) (hbytes : (n + m) * bytes ≤ 140737488355328) (hbase : base ≤ w.heap.size) :
    ∃ g cap w', (Builtin.append_ #[t, t] ty #[v, .slice (some ⟨b1, o1, none⟩) m c]).run Tryd.prog w = .ok (.slice (some ⟨g, 0, none⟩) (n + m) cap) w' ∧ Own f E size w' base (.slice (some ⟨g, 0, none⟩) (n + m) cap) (l ++ ys) ∧
      w.grownBy w' v.ownBlock ∧ (v.ownBlock = some g ∨ g = w.heap.size) ∧ g < w'.heap.size := by
  obtain ⟨i, z, hi, hz, hsize, hby, hzs⟩ := he.info
  subst hln
  subst hm
  have hnews : ∀ j u, (rowOf f ys)[j]? = some u → w.cell? ((⟨b1, o1, none⟩ : Addr).add j) = some u := fun j u hu => by
    have hadd : (⟨b1, o1, none⟩ : Addr).add j = ⟨b1, o1 + j, none⟩ := by unfold Addr.add; split <;> simp_all
    rw [hadd]
    exact hy j u hu
  obtain ⟨v', w', hr, h2, h3, _, h5⟩ := run_append_own_at (P := Tryd.prog) w base t ty E i z size bytes ht hi hz hsize hby hzs he.pos v l.length (rowOf f l) hown ⟨b1, o1, none⟩ ys.length c (rowOf f ys) (rowOf_length he.len ys) hnews (rowOf_one he.one ys) h63 hbytes hbase
  obtain ⟨g, cap, rfl, _, hlt⟩ := h2.form h0
  refine ⟨g, cap, w', hr, ?_, h3, ?_, hlt⟩
  · unfold Own
    rw [rowOf_append, List.length_append]
    exact h2
  · rcases h5 with h5 | h5
    · exact .inl (by rw [← h5]; rfl)
    · right
      simpa [Value.ownBlock] using h5
theorem list_pushes2 (he : Elem f E size bytes) {ops : Array Oper} {rest : List Oper} {o : Oper} {a : Act} {Q : Exit → Act → World → Prop} (hgd : o.guard = none) (s x : Operand) (t : TypeId)
    (ho : o.op = .call { callee := .builtin .append, args := #[s, x], argTypes := #[t, t] }) (ht : Tryd.prog.underlying t = some (.slice E)) (base : Nat) (v : Value) (l ys : List α) (hs : a.eval s = v) (hown : Own f E size w base v l) (n m : Nat) (hln : l.length = n) (hm : ys.length = m) (h0 : 0 < n + m)
    (b1 o1 c : Nat) (hx : a.eval x = .slice (some ⟨b1, o1, none⟩) m c) (hy : ∀ j u, (rowOf f ys)[j]? = some u → w.cell? ⟨b1, o1 + j, none⟩ = some u) (h63 : n + m ≤ maxLen) (hbytes : (n + m) * bytes ≤ 140737488355328) (hbase : base ≤ w.heap.size)
    (h : ∀ g cap w', Own f E size w' base (.slice (some ⟨g, 0, none⟩) (n + m) cap) (l ++ ys) → w.grownBy w' v.ownBlock → (v.ownBlock = some g ∨ g = w.heap.size) → g < w'.heap.size → wpList Tryd.prog ops Q rest (a.put o.dst (.slice (some ⟨g, 0, none⟩) (n + m) cap)) w') : wpList Tryd.prog ops Q (o :: rest) a w :=
  wpList_plain hgd fun _ hK => by
    obtain ⟨g, cap, w', hr, h2, h3, h4, h5⟩ := run_pushes2 he t o.type ht base v l ys hown n m hln hm h0 b1 o1 c hy h63 hbytes hbase
    unfold Oper.wp execOp
    simp only [ho, resolve, invoke, builtin, Sem.run_bind, Sem.run_pure, Result.andThen_ok, List.map_toArray, List.map_cons, List.map_nil, hs, hx, hr]
    exact hK _ _ (h g cap w' h2 h3 h4 h5)
/-- an empty slice that has just been made -/
theorem Own.empty {g base : Nat} (h : Bk w g E #[]) (hb : base ≤ g) : Own f E size w base (.slice (some ⟨g, 0, none⟩) 0 0) [] :=
  ⟨by simp [rowOf], .inr ⟨g, 0, #[], rfl, hb, h, Nat.le_refl _, by unfold maxLen; omega, by simp, by simp [rowOf]⟩⟩
/-- the row's cells, from its head -/
theorem Own.at0 {g m c base : Nat} {l : List α} (h : Own f E size w base (.slice (some ⟨g, 0, none⟩) m c) l) : ∀ j u, (rowOf f l)[j]? = some u → w.cell? ⟨g, j, none⟩ = some u := fun j u hu => by
  obtain ⟨A, c', e, _, _, hr⟩ := h.rd
  have hl : 0 < l.length := by
    cases l with
    | nil => simp [rowOf] at hu
    | cons a l => simp
  obtain ⟨b, off, e2, _, hc⟩ := hr.2 hl
  injection e with e3 e4 e5
  rw [← e3] at e2
  injection e2 with e2
  injection e2 with e6 e7
  have h1 := hc j u hu
  rw [← e6, ← e7, Nat.zero_add] at h1
  exact h1
end
end Go.Proofs.YtgpmlpneffbbbaaDoor
