/-
  A stroke and an ink copied into memory of their own: slices.Clone and the reference's.
-/
import Derived.Test.YtnmmnikoogjhoaaOwnL
import Derived.Test.YtnmmnikoogjhoaaInkOkS
import Derived.Test.YtnmmnikoogjhoaaMapInk
namespace Go.Proofs.Ytnmmnikoogjhoaa
set_option linter.unusedSimpArgs false
set_option linter.unusedVariables false
set_option maxRecDepth 20000
open Go.RowKit
open Go.ChangeShapes Go.WideShapes Go.Deep Go.Joins

set_option maxHeartbeats 4000000 in
theorem cloneP_any (A : Option Addr) (n c : Nat) (xs : List Pt) (w : World) (ha : Rd w A n 3 (rowOf ptC xs)) (la : xs.length = n) (h0 : 0 < n) (hn : n ≤ 1048576) :
    Calls Try.prog 68 #[.slice A n c] w fun e w' => ∃ A2 c2, e = .returned (.slice A2 n c2) ∧ Own ptC 72 3 w' w.heap.size (.slice A2 n c2) xs ∧ Below w.heap.size w w' := by
  obtain ⟨b1, o1, rfl, l1, _⟩ := ha.2 h0
  have hnil := Lib.run_eql_slice_nil (P := Try.prog) w 50 _ (some ⟨b1, o1, none⟩) n c 0 0 Try.underlying50
  have HA := Lib.hid ha
  have LA := Lib.hid la
  clear ha la
  go_enter Try.func68, Try.ntmps68
  go_wp2_with ((at_builtin; refine list_pushes elem_pt (by rfl) (.tmp 5) (.tmp 6) 50 (by rfl) Try.underlying50 w.heap.size (.slice (some ⟨w.heap.size, 0, none⟩) 0 0) [] xs (by rfl) (Own.empty (Bk.new w #[] 72) (Nat.le_refl _)) 0 n rfl LA.out h0 (some ⟨b1, o1, none⟩) c (by rfl) (HA.out.alloc _) (by unfold maxLen; omega) (by omega) (by simp only [World.size_alloc]; omega) ?_; intro g5 cap5 w5 hown5 hgrow5 hat5 hlt5; have HO5 := Lib.hid hown5; have HG5 := Lib.hid hgrow5; clear hown5 hgrow5 hat5))
  refine bodyPost_ret (by simp [results, Try.results68, go_sem, *]; try rfl) rfl ?_
  have h1 := HO5.out
  simp only [List.nil_append, Nat.zero_add] at h1
  refine ⟨_, _, by first | rfl | rw [Nat.zero_add], h1, ?_⟩
  exact ((Below.refl _ _).alloc (Nat.le_refl _) _).grown HG5.out (by simp) (fun b hb => by
    have : w.heap.size = b := by simpa [Value.ownBlock] using hb
    omega)

set_option maxHeartbeats 4000000 in
theorem l02OwnStroke_any (b o : Nat) (A : Option Addr) (n c : Nat) (xs : List Pt) (w : World) (hcell : w.cell? ⟨b, o, none⟩ = some (.slice A n c)) (ha : Rd w A n 3 (rowOf ptC xs)) (la : xs.length = n) (h0 : 0 < n) (hn : n ≤ 1048576) :
    Calls Try.prog 66 #[.pointer (some ⟨b, o, none⟩)] w fun e w' => ∃ A2 c2, e = .returned (.agg #[.slice A2 n c2]) ∧ Own ptC 72 3 w' w.heap.size (.slice A2 n c2) xs ∧ Below w.heap.size w w' := by
  obtain ⟨b1, o1, rfl, l1, _⟩ := ha.2 h0
  have hcb : b < w.heap.size := block_lt_of_cell hcell
  have HA := Lib.hid ha
  have LA := Lib.hid la
  clear ha la
  go_enter Try.func66, Try.ntmps66
  go_wp2_with ((at_builtin; refine list_pushes elem_pt (by rfl) (.tmp 3) (.tmp 7) 50 (by rfl) Try.underlying50 (w.heap.size + 1) (.slice (some ⟨w.heap.size + 1, 0, none⟩) 0 0) [] xs (by rfl) (Own.empty (Bk.new1 w _ #[] 72) (Nat.le_refl _)) 0 n rfl LA.out h0 (some ⟨b1, o1, none⟩) c (by rfl) ((HA.out.alloc _).alloc _) (by unfold maxLen; omega) (by omega) (by simp only [World.size_alloc]; omega) ?_; intro g5 cap5 w5 hown5 hgrow5 hat5 hlt5; have HO5 := Lib.hid hown5; have HG5 := Lib.hid hgrow5; have hbr : Bk w5 w.heap.size 52 #[.slice none 0 0] := (hgrow5.block _ (by simp only [World.size_alloc]; omega) (by simp [Value.ownBlock])).trans ((Bk.new w _ _).alloc _); obtain ⟨er, fr⟩ := bk1 hbr; have hrl := hbr.lt; clear hown5 hgrow5 hat5 hbr))
  refine bodyPost_ret (by simp [results, Try.results66, go_sem, *]; try rfl) rfl ?_
  have h1 := HO5.out
  simp only [List.nil_append, Nat.zero_add] at h1
  refine ⟨_, _, rfl, (h1.setCell _ _ (fun k hk => by have h2 := h1.lt k hk; simp only [ne_eq]; omega)).mono (by omega), ?_⟩
  exact ((((Below.refl _ _).alloc (Nat.le_refl _) _).alloc (by simp) _).grown HG5.out (by simp; omega) (fun b hb => by
    have : w.heap.size + 1 = b := by simpa [Value.ownBlock] using hb
    omega)).setCell (Nat.le_refl _) _
end Go.Proofs.Ytnmmnikoogjhoaa
