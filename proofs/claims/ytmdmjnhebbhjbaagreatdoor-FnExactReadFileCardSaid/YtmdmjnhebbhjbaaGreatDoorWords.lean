/-
  The words of a text: program and reference list the same.
-/
import Derived.Test.YtmdmjnhebbhjbaaGreatDoorSplit
import Derived.Test.YtmdmjnhebbhjbaaGreatDoorShelf
namespace Go.Proofs.YtmdmjnhebbhjbaaGreatDoor
set_option linter.unusedSimpArgs false
set_option linter.unusedVariables false
set_option maxRecDepth 20000
open Go.RowKit
open Go.ChangeShapes Go.WideShapes Go.Deep Go.Joins

theorem rowOf_sC (l : List ByteArray) : rowOf sC l = l.map Value.string := by
  induction l with
  | nil => rfl
  | cons b l ih => show sC b ++ rowOf sC l = _; rw [ih]; rfl
/-- a variable of the library's that holds some number -/
def MaxIs (w : World) : Prop := ∃ m, w.cell? ⟨Tryz.laysM146_ren.g 1, 0, none⟩ = some (.int .i64 m)
theorem MaxIs.of {w : World} (h : w.ShapedOpen Tryz.prog) : MaxIs w := Tryz.laysM146.s1_3 w h
theorem MaxIs.below {w w' : World} (h : MaxIs w) (hb : Below w.heap.size w w') : MaxIs w' := by
  obtain ⟨m, hm⟩ := h
  exact ⟨m, (hb.cell (p := ⟨Tryz.laysM146_ren.g 1, 0, none⟩) (block_lt_of_cell hm)).trans hm⟩
theorem splitB_is (c : UInt8) (s : ByteArray) : Lib.splitB (bs [c]) 0 (Lib.countB s (bs [c])) s = splitBs c s := by
  apply map_inj_bs
  rw [splitBs_map, Lib.splitB_data, bs_list, ← split_lib c s.data.toList.length s.data.toList (Nat.le_refl _)]
  unfold Lib.split Lib.countB
  rw [bs_list]
theorem split_any (s : ByteArray) (c : UInt8) (n : Nat) (w : World) (hn : (splitBs c s).length = n) (hs : s.size ≤ 1048576) (hm : MaxIs w) :
    Calls Tryz.prog 56 #[.string s, .string (bs [c])] w fun e w' => ∃ g, e = .returned (.slice (some ⟨g, 0, none⟩) n n) ∧ w.heap.size ≤ g ∧ Bk w' g 9 (rowOf sC (splitBs c s)).toArray ∧ Below w.heap.size w w' := by
  subst hn
  obtain ⟨m, hm⟩ := hm
  refine (Tryz.strings_Split s (bs [c]) m w (by omega) hm (by simp [bs_size])).mono ?_
  rintro e w' ⟨rfl, rfl⟩
  have hl : (splitBs c s).length = Lib.countB s (bs [c]) + 1 := by
    rw [← splitB_is]
    exact Lib.splitB_all (bs [c]) (by simp [bs_size]) 0 _ s rfl
  refine ⟨w.heap.size, by rw [hl], Nat.le_refl _, ?_, by go_grown⟩
  rw [rowOf_sC, ← splitB_is]
  exact Bk.new w _ _

theorem l01Split_n (s : ByteArray) (c : UInt8) (n : Nat) (w : World) (hn : (splitBs c s).length = n) (hs : s.size ≤ 1048576) :
    Calls Tryz.prog 52 #[.string s, .int .u8 (c.toNat : Int)] w fun e w' => ∃ A2 c2, e = .returned (.slice A2 n c2) ∧ Own sC 9 1 w' w.heap.size (.slice A2 n c2) (splitBs c s) ∧ Below w.heap.size w w' := by
  subst hn; exact l01Split_any s c w hs
def wordsB (s : ByteArray) : List ByteArray := (splitBs 32 s).filter fun x => decide (x ≠ bs [])
theorem wordsB_len (s : ByteArray) : (wordsB s).length ≤ s.size + 1 := Nat.le_trans (List.length_filter_le _ _) (splitBs_len 32 s)
theorem filter_yes {L : List ByteArray} {k : Nat} (h : k < L.length) {x : ByteArray} (hx : L[k] = x) (hn : ¬ x = bs []) : (L.take (k + 1)).filter (fun x => decide (x ≠ bs [])) = (L.take k).filter (fun x => decide (x ≠ bs [])) ++ [x] := by
  rw [List.take_succ_eq_append_getElem h, List.filter_append, hx]
  simp [hn]
theorem filter_no {L : List ByteArray} {k : Nat} (h : k < L.length) (hx : L[k] = bs []) : (L.take (k + 1)).filter (fun x => decide (x ≠ bs [])) = (L.take k).filter (fun x => decide (x ≠ bs [])) := by
  rw [List.take_succ_eq_append_getElem h, List.filter_append, hx]
  simp

end Go.Proofs.YtmdmjnhebbhjbaaGreatDoor
