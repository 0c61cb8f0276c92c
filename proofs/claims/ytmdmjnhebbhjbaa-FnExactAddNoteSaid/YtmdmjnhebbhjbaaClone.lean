/-
  Rows copied: slices.Clone and the reference's own copies; a row that may be empty.
-/
import Derived.Test.YtmdmjnhebbhjbaaFlPush
import Derived.Test.YtmdmjnhebbhjbaaFileL
import Derived.Test.YtmdmjnhebbhjbaaColumn
import Derived.Deep.Upon
namespace Go.Proofs.Ytmdmjnhebbhjbaa
set_option linter.unusedSimpArgs false
set_option linter.unusedVariables false
set_option maxRecDepth 20000
open Go.RowKit
open Go.ChangeShapes Go.WideShapes Go.Deep Go.Joins

section
variable {α : Type} {f : α → List Value} {E : TypeId} {size bytes : Nat} {w : World}
theorem run_push0 (t ty e : TypeId) (i : TypeInfo) (ht : Try.prog.underlying t = some (.slice e)) (hi : Try.prog.info? e = some i) (w : World) (g : Nat) (A : Option Addr) (c : Nat) :
    (Builtin.append_ #[t, t] ty #[.slice (some ⟨g, 0, none⟩) 0 0, .slice A 0 c]).run Try.prog w = .ok (.slice (some ⟨g, 0, none⟩) 0 0) w := by
  cases A with
  | none => exact run_append_nothing w t t ty e i ht hi (some ⟨g, 0, none⟩) 0 0 (Nat.le_refl _) _ (Src.ofNil w ht c)
  | some a => exact run_append_nothing w t t ty e i ht hi (some ⟨g, 0, none⟩) 0 0 (Nat.le_refl _) _ (Src.ofSlice w ht a 0 c [] (by simp) (fun j u hu => by simp at hu) (fun u hu => by simp at hu))
theorem list_push0 {ops : Array Oper} {rest : List Oper} {o : Oper} {a : Act} {Q : Exit → Act → World → Prop} (hgd : o.guard = none) (s x : Operand) (t e : TypeId) (i : TypeInfo)
    (ho : o.op = .call { callee := .builtin .append, args := #[s, x], argTypes := #[t, t] }) (ht : Try.prog.underlying t = some (.slice e)) (hi : Try.prog.info? e = some i) (g : Nat) (A : Option Addr) (c : Nat) (hs : a.eval s = .slice (some ⟨g, 0, none⟩) 0 0) (hx : a.eval x = .slice A 0 c)
    (h : wpList Try.prog ops Q rest (a.put o.dst (.slice (some ⟨g, 0, none⟩) 0 0)) w) : wpList Try.prog ops Q (o :: rest) a w :=
  wpList_plain hgd fun _ hK => by
    have hr := run_push0 t o.type e i ht hi w g A c
    unfold Oper.wp execOp
    simp only [ho, resolve, invoke, builtin, Sem.run_bind, Sem.run_pure, Result.andThen_ok, List.map_toArray, List.map_cons, List.map_nil, hs, hx, hr]
    exact hK _ _ h
theorem step_push0 {ops : Array Oper} {o : Oper} {a : Act} {K : Act → World → Prop} {Q : Exit → Act → World → Prop} {F : Prop} (hgd : o.guard = none) (s x : Operand) (t e : TypeId) (i : TypeInfo)
    (ho : o.op = .call { callee := .builtin .append, args := #[s, x], argTypes := #[t, t] }) (ht : Try.prog.underlying t = some (.slice e)) (hi : Try.prog.info? e = some i) (g : Nat) (A : Option Addr) (c : Nat) (hs : a.eval s = .slice (some ⟨g, 0, none⟩) 0 0) (hx : a.eval x = .slice A 0 c)
    (h : K (a.put o.dst (.slice (some ⟨g, 0, none⟩) 0 0)) w) : if Region.wanted o (yielded ops a.tmps) = true then Oper.wp Try.prog o a w K Q else F := by
  have hw : Region.wanted o (yielded ops a.tmps) = true := by simp [Region.wanted, hgd]
  rw [if_pos hw]
  have hr := run_push0 t o.type e i ht hi w g A c
  unfold Oper.wp execOp
  simp only [ho, resolve, invoke, builtin, Sem.run_bind, Sem.run_pure, Result.andThen_ok, List.map_toArray, List.map_cons, List.map_nil, hs, hx, hr]
  exact h
theorem step_pushes (he : Elem f E size bytes) {ops : Array Oper} {o : Oper} {a : Act} {K : Act → World → Prop} {Q : Exit → Act → World → Prop} {F : Prop} (hgd : o.guard = none) (s x : Operand) (t : TypeId)
    (ho : o.op = .call { callee := .builtin .append, args := #[s, x], argTypes := #[t, t] }) (ht : Try.prog.underlying t = some (.slice E)) (base : Nat) (v : Value) (l ys : List α) (hs : a.eval s = v) (hown : Own f E size w base v l) (n m : Nat) (hln : l.length = n) (hm : ys.length = m) (h0 : 0 < m)
    (A : Option Addr) (c : Nat) (hx : a.eval x = .slice A m c) (hy : Rd w A m size (rowOf f ys)) (h63 : n + m ≤ maxLen) (hbytes : (n + m) * bytes ≤ 140737488355328) (hbase : base ≤ w.heap.size)
    (h : ∀ g cap w', Own f E size w' base (.slice (some ⟨g, 0, none⟩) (n + m) cap) (l ++ ys) → w.grownBy w' v.ownBlock → (v.ownBlock = some g ∨ g = w.heap.size) → g < w'.heap.size → K (a.put o.dst (.slice (some ⟨g, 0, none⟩) (n + m) cap)) w') :
    if Region.wanted o (yielded ops a.tmps) = true then Oper.wp Try.prog o a w K Q else F := by
  have hw : Region.wanted o (yielded ops a.tmps) = true := by simp [Region.wanted, hgd]
  rw [if_pos hw]
  obtain ⟨g, cap, w', hr, h2, h3, h4, h5⟩ := run_pushes he t o.type ht base v l ys hown n m hln hm h0 A c hy h63 hbytes hbase
  unfold Oper.wp execOp
  simp only [ho, resolve, invoke, builtin, Sem.run_bind, Sem.run_pure, Result.andThen_ok, List.map_toArray, List.map_cons, List.map_nil, hs, hx, hr]
  exact h g cap w' h2 h3 h4 h5
end
set_option maxHeartbeats 4000000 in
theorem cloneCh_any (A : Option Addr) (n c : Nat) (xs : List Ch) (w : World) (ha : Rd w A n 4 (rowOf chC xs)) (la : xs.length = n) (h0 : 0 < n) (hn : n ≤ 1048576) :
    Calls Try.prog 51 #[.slice A n c] w fun e w' => ∃ A2 c2, e = .returned (.slice A2 n c2) ∧ Own chC 74 4 w' w.heap.size (.slice A2 n c2) xs ∧ Below w.heap.size w w' := by
  obtain ⟨b1, o1, rfl, l1, _⟩ := ha.2 h0
  have hnil := Lib.run_eql_slice_nil (P := Try.prog) w 31 _ (some ⟨b1, o1, none⟩) n c 0 0 Try.underlying31
  have HA := Lib.hid ha
  have LA := Lib.hid la
  clear ha la
  go_enter Try.func51, Try.ntmps51
  go_wp2_with ((at_builtin; refine list_pushes elem_ch (by rfl) (.tmp 5) (.tmp 6) 31 (by rfl) Try.underlying31 w.heap.size (.slice (some ⟨w.heap.size, 0, none⟩) 0 0) [] xs (by rfl) (Own.empty (Bk.new w #[] 74) (Nat.le_refl _)) 0 n rfl LA.out h0 (some ⟨b1, o1, none⟩) c (by rfl) (HA.out.alloc _) (by unfold maxLen; omega) (by omega) (by simp only [World.size_alloc]; omega) ?_; intro g5 cap5 w5 hown5 hgrow5 hat5 hlt5; have HO5 := Lib.hid hown5; have HG5 := Lib.hid hgrow5; clear hown5 hgrow5 hat5))
  refine bodyPost_ret (by simp [results, Try.results51, go_sem, *]; try rfl) rfl ?_
  have h1 := HO5.out
  simp only [List.nil_append, Nat.zero_add] at h1
  refine ⟨_, _, by first | rfl | rw [Nat.zero_add], h1, ?_⟩
  exact ((Below.refl _ _).alloc (Nat.le_refl _) _).grown HG5.out (by simp) (fun b hb => by
    have : w.heap.size = b := by simpa [Value.ownBlock] using hb
    omega)
set_option maxHeartbeats 4000000 in
theorem cloneNo_any (A : Option Addr) (n c : Nat) (xs : List No) (w : World) (ha : Rd w A n 3 (rowOf noC xs)) (la : xs.length = n) (hn : n ≤ 1048576) :
    Calls Try.prog 52 #[.slice A n c] w fun e w' => ∃ A2 c2, e = .returned (.slice A2 n c2) ∧ Own noC 39 3 w' w.heap.size (.slice A2 n c2) xs ∧ Below w.heap.size w w' := by
  rcases Nat.eq_zero_or_pos n with hz | h0
  · subst hz
    obtain rfl : xs = [] := List.eq_nil_of_length_eq_zero la
    clear ha la
    obtain ⟨i, hi⟩ : ∃ i, Try.prog.info? 39 = some i := by
      obtain ⟨i, z, hi, _⟩ := elem_no.info
      exact ⟨i, hi⟩
    cases A with
    | none =>
      have hnil := Lib.run_eql_slice_nil (P := Try.prog) w 33 _ none 0 c 0 0 Try.underlying33
      go_enter Try.func52, Try.ntmps52
      go_wp2_with fail
      refine bodyPost_ret (by simp [results, Try.results52, go_sem, *]; try rfl) rfl ?_
      exact ⟨none, 0, rfl, Own.nil _ _ _ _ _, Below.refl _ _⟩
    | some a =>
      have hnil := Lib.run_eql_slice_nil (P := Try.prog) w 33 _ (some a) 0 c 0 0 Try.underlying33
      go_enter Try.func52, Try.ntmps52
      go_wp2_with (at_builtin; refine list_push0 (by rfl) (.tmp 5) (.tmp 6) 33 39 i (by rfl) Try.underlying33 hi w.heap.size (some a) c (by rfl) (by rfl) ?_)
      refine bodyPost_ret (by simp [results, Try.results52, go_sem, *]; try rfl) rfl ?_
      exact ⟨_, _, rfl, Own.empty (Bk.new w #[] 39) (Nat.le_refl _), by go_grown⟩
  · obtain ⟨b1, o1, rfl, l1, _⟩ := ha.2 h0
    have hnil := Lib.run_eql_slice_nil (P := Try.prog) w 33 _ (some ⟨b1, o1, none⟩) n c 0 0 Try.underlying33
    have HA := Lib.hid ha
    have LA := Lib.hid la
    clear ha la
    go_enter Try.func52, Try.ntmps52
    go_wp2_with ((at_builtin; refine list_pushes elem_no (by rfl) (.tmp 5) (.tmp 6) 33 (by rfl) Try.underlying33 w.heap.size (.slice (some ⟨w.heap.size, 0, none⟩) 0 0) [] xs (by rfl) (Own.empty (Bk.new w #[] 39) (Nat.le_refl _)) 0 n rfl LA.out h0 (some ⟨b1, o1, none⟩) c (by rfl) (HA.out.alloc _) (by unfold maxLen; omega) (by omega) (by simp only [World.size_alloc]; omega) ?_; intro g5 cap5 w5 hown5 hgrow5 hat5 hlt5; have HO5 := Lib.hid hown5; have HG5 := Lib.hid hgrow5; clear hown5 hgrow5 hat5))
    refine bodyPost_ret (by simp [results, Try.results52, go_sem, *]; try rfl) rfl ?_
    have h1 := HO5.out
    simp only [List.nil_append, Nat.zero_add] at h1
    refine ⟨_, _, by first | rfl | rw [Nat.zero_add], h1, ?_⟩
    exact ((Below.refl _ _).alloc (Nat.le_refl _) _).grown HG5.out (by simp) (fun b hb => by
      have : w.heap.size = b := by simpa [Value.ownBlock] using hb
      omega)
set_option maxHeartbeats 4000000 in
theorem cloneI_any (A : Option Addr) (n c : Nat) (xs : List Int) (w : World) (ha : Rd w A n 1 (rowOf iC xs)) (la : xs.length = n) (h0 : 0 < n) (hn : n ≤ 1048576) :
    Calls Try.prog 53 #[.slice A n c] w fun e w' => ∃ A2 c2, e = .returned (.slice A2 n c2) ∧ Own iC 2 1 w' w.heap.size (.slice A2 n c2) xs ∧ Below w.heap.size w w' := by
  obtain ⟨b1, o1, rfl, l1, _⟩ := ha.2 h0
  have hnil := Lib.run_eql_slice_nil (P := Try.prog) w 78 _ (some ⟨b1, o1, none⟩) n c 0 0 Try.underlying78
  have HA := Lib.hid ha
  have LA := Lib.hid la
  clear ha la
  go_enter Try.func53, Try.ntmps53
  go_wp2_with ((at_builtin; refine list_pushes elem_int (by rfl) (.tmp 5) (.tmp 6) 78 (by rfl) Try.underlying78 w.heap.size (.slice (some ⟨w.heap.size, 0, none⟩) 0 0) [] xs (by rfl) (Own.empty (Bk.new w #[] 2) (Nat.le_refl _)) 0 n rfl LA.out h0 (some ⟨b1, o1, none⟩) c (by rfl) (HA.out.alloc _) (by unfold maxLen; omega) (by omega) (by simp only [World.size_alloc]; omega) ?_; intro g5 cap5 w5 hown5 hgrow5 hat5 hlt5; have HO5 := Lib.hid hown5; have HG5 := Lib.hid hgrow5; clear hown5 hgrow5 hat5))
  refine bodyPost_ret (by simp [results, Try.results53, go_sem, *]; try rfl) rfl ?_
  have h1 := HO5.out
  simp only [List.nil_append, Nat.zero_add] at h1
  refine ⟨_, _, by first | rfl | rw [Nat.zero_add], h1, ?_⟩
  exact ((Below.refl _ _).alloc (Nat.le_refl _) _).grown HG5.out (by simp) (fun b hb => by
    have : w.heap.size = b := by simpa [Value.ownBlock] using hb
    omega)
set_option maxHeartbeats 4000000 in
theorem l00Own_any (A : Option Addr) (n c : Nat) (xs : List Int) (w : World) (ha : Rd w A n 1 (rowOf iC xs)) (la : xs.length = n) (h0 : 0 < n) (hn : n ≤ 1048576) :
    Calls Try.prog 44 #[.slice A n c] w fun e w' => ∃ A2 c2, e = .returned (.slice A2 n c2) ∧ Own iC 2 1 w' w.heap.size (.slice A2 n c2) xs ∧ Below w.heap.size w w' := by
  obtain ⟨b1, o1, rfl, l1, _⟩ := ha.2 h0
  have HA := Lib.hid ha
  have LA := Lib.hid la
  clear ha la
  go_enter Try.func44, Try.ntmps44
  go_wp2_with ((at_builtin; refine list_pushes elem_int (by rfl) (.tmp 3) (.tmp 4) 78 (by rfl) Try.underlying78 w.heap.size (.slice (some ⟨w.heap.size, 0, none⟩) 0 0) [] xs (by rfl) (Own.empty (Bk.new w #[] 2) (Nat.le_refl _)) 0 n rfl LA.out h0 (some ⟨b1, o1, none⟩) c (by rfl) (HA.out.alloc _) (by unfold maxLen; omega) (by omega) (by simp only [World.size_alloc]; omega) ?_; intro g5 cap5 w5 hown5 hgrow5 hat5 hlt5; have HO5 := Lib.hid hown5; have HG5 := Lib.hid hgrow5; clear hown5 hgrow5 hat5))
  refine bodyPost_ret (by simp [results, Try.results44, go_sem, *]; try rfl) rfl ?_
  have h1 := HO5.out
  simp only [List.nil_append, Nat.zero_add] at h1
  refine ⟨_, _, by first | rfl | rw [Nat.zero_add], h1, ?_⟩
  exact ((Below.refl _ _).alloc (Nat.le_refl _) _).grown HG5.out (by simp) (fun b hb => by
    have : w.heap.size = b := by simpa [Value.ownBlock] using hb
    omega)
end Go.Proofs.Ytmdmjnhebbhjbaa
