/-
  A text cut at a byte: the reference's pieces.
-/
import Derived.Test.YtmdmjnhebbhjbaaGreatDoorStra
namespace Go.Proofs.YtmdmjnhebbhjbaaGreatDoor
set_option linter.unusedSimpArgs false
set_option linter.unusedVariables false
set_option maxRecDepth 20000
open Go.RowKit
open Go.ChangeShapes Go.WideShapes Go.Deep Go.Joins

theorem bs_ext {x y : ByteArray} (h : x.data.toList = y.data.toList) : x = y := by
  apply ByteArray.ext
  apply Array.ext'
  exact h
theorem extract_list (s : ByteArray) (a b : Nat) : (s.extract a b).data.toList = (s.data.toList.drop a).take (b - a) := by rw [Lib.extract_data]
/-- the pieces, as texts -/
def splitBs (c : UInt8) (s : ByteArray) : List ByteArray := (splitL c s.data.toList).map bs
theorem splitBs_map (c : UInt8) (s : ByteArray) : (splitBs c s).map (·.data.toList) = splitL c s.data.toList := by
  unfold splitBs
  rw [List.map_map]
  have e : ((fun x : ByteArray => x.data.toList) ∘ bs) = id := by funext l; exact bs_list l
  rw [e, List.map_id]
theorem splitBs_len (c : UInt8) (s : ByteArray) : (splitBs c s).length ≤ s.size + 1 := by
  unfold splitBs
  rw [List.length_map]
  have := splitL_count c s.data.toList
  simpa using this
theorem map_inj_bs {L M : List ByteArray} (h : L.map (·.data.toList) = M.map (·.data.toList)) : L = M := by
  induction L generalizing M with
  | nil => cases M with
    | nil => rfl
    | cons y M => simp at h
  | cons x L ih => cases M with
    | nil => simp at h
    | cons y M =>
      simp only [List.map_cons, List.cons.injEq] at h
      rw [bs_ext h.1, ih h.2]
theorem size_list (s : ByteArray) : s.data.toList.length = s.size := Array.length_toList
/-- what has been cut so far: the pieces L, the piece under way from 'fr', no c in it up to i -/
structure CutAt (c : UInt8) (s : ByteArray) (L : List ByteArray) (fr i : Nat) : Prop where
  done : L.map (·.data.toList) ++ splitL c (s.data.toList.drop fr) = splitL c s.data.toList
  clean : c ∉ (s.data.toList.drop fr).take (i - fr)
theorem CutAt.start (c : UInt8) (s : ByteArray) : CutAt c s [] 0 0 := ⟨by simp, by simp⟩
theorem drop_hit {c : UInt8} {l : List UInt8} {m : Nat} (hm : m < l.length) (hc : c ∉ l.take m) (he : l[m] = c) : splitL c l = l.take m :: splitL c (l.drop (m + 1)) := by
  have e : l = l.take m ++ c :: l.drop (m + 1) := by
    rw [← he, ← List.drop_eq_getElem_cons hm, List.take_append_drop]
  have h1 := splitL_hit (b := l.drop (m + 1)) hc
  rw [← e] at h1
  exact h1
theorem CutAt.hit {c : UInt8} {s : ByteArray} {L : List ByteArray} {fr i : Nat} (h : CutAt c s L fr i) (hi : i < s.size) (hf : fr ≤ i) (he : s[i] = c) : CutAt c s (L ++ [s.extract fr i]) (i + 1) (i + 1) := by
  have hl := size_list s
  have hm : i - fr < (s.data.toList.drop fr).length := by rw [List.length_drop]; omega
  have hg : (s.data.toList.drop fr)[i - fr] = c := by
    rw [List.getElem_drop]
    have e : fr + (i - fr) = i := by omega
    simp only [e]
    exact he
  have h1 := drop_hit hm h.clean hg
  refine ⟨?_, by simp⟩
  rw [← h.done, h1, List.map_append, List.append_assoc, List.drop_drop]
  have e2 : fr + (i - fr + 1) = i + 1 := by omega
  rw [e2]
  simp [extract_list]
theorem CutAt.miss {c : UInt8} {s : ByteArray} {L : List ByteArray} {fr i : Nat} (h : CutAt c s L fr i) (hi : i < s.size) (hf : fr ≤ i) (he : ¬ s[i] = c) : CutAt c s L fr (i + 1) := by
  refine ⟨h.done, fun hm => ?_⟩
  have hl := size_list s
  have e : i + 1 - fr = (i - fr) + 1 := by omega
  rw [e, List.take_succ_eq_append_getElem (by rw [List.length_drop]; omega), List.mem_append] at hm
  rcases hm with hm | hm
  · exact h.clean hm
  · simp only [List.mem_singleton, List.getElem_drop] at hm
    have e2 : fr + (i - fr) = i := by omega
    simp only [e2] at hm
    exact he hm.symm
theorem CutAt.end {c : UInt8} {s : ByteArray} {L : List ByteArray} {fr : Nat} (h : CutAt c s L fr s.size) : L ++ [s.extract fr s.size] = splitBs c s := by
  apply map_inj_bs
  rw [splitBs_map, ← h.done, List.map_append]
  have hl := size_list s
  have e : (s.data.toList.drop fr).take (s.size - fr) = s.data.toList.drop fr := List.take_of_length_le (by rw [List.length_drop]; omega)
  have hc := h.clean
  rw [e] at hc
  rw [splitL_none hc]
  simp only [List.map_cons, List.map_nil, extract_list, e]
theorem u8_beq_true {a c : UInt8} (h : a = c) : ((a.toNat : Int) == (c.toNat : Int)) = true := by subst h; simp
theorem u8_beq_false {a c : UInt8} (h : ¬ a = c) : ((a.toNat : Int) == (c.toNat : Int)) = false := by
  rw [beq_eq_false_iff_ne]
  intro e
  exact h (UInt8.toNat_inj.1 (by omega))

set_option maxHeartbeats 4000000 in
theorem l01Split_any (s : ByteArray) (c : UInt8) (w : World) (hs : s.size ≤ 1048576) :
    Calls Tryz.prog 52 #[.string s, .int .u8 (c.toNat : Int)] w fun e w' => ∃ A2 c2, e = .returned (.slice A2 (splitBs c s).length c2) ∧ Own sC 9 1 w' w.heap.size (.slice A2 (splitBs c s).length c2) (splitBs c s) ∧ Below w.heap.size w w' := by
  go_enter Tryz.func52, Tryz.ntmps52
  go_wp2_with fail
  go_loopw [5, 6, 7] (fun v f i wr => ∃ (k fr : Nat) (L : List ByteArray), k ≤ s.size ∧ fr ≤ k ∧ i = .int .i64 (k : Int) ∧ f = .int .i64 (fr : Int) ∧ L.length ≤ k ∧ Hid (CutAt c s L fr k) ∧ Own sC 9 1 wr w.heap.size v L ∧ Below w.heap.size w wr) (fun _ _ i _ => s.size - (intOf i).toNat)
  case atStart => exact ⟨0, 0, [], Nat.zero_le _, Nat.le_refl _, rfl, rfl, Nat.le_refl _, CutAt.start c s, Own.empty (Bk.new w #[] 9) (Nat.le_refl _), by go_grown⟩
  case round =>
    obtain ⟨k, fr, L, hk, hf, rfl, rfl, hLk, hcut, hown, hB⟩ := hrel
    have hBs := hB.size
    have HO := Lib.hid hown
    have HV : Hid (∀ b, u5.ownBlock = some b → w.heap.size ≤ b) := fun b hb => (hown.lt b hb).1
    clear hown
    by_cases hlt : k < s.size
    · have hk0 : (0 : Int) ≤ (k : Int) := by omega
      by_cases he : s[k] = c
      · have hnx := Lib.hid (hcut.out.hit hlt hf he)
        have heq := u8_beq_true he
        obtain ⟨x, hx⟩ : ∃ x, s.extract fr k = x := ⟨_, rfl⟩
        rw [hx] at hnx
        obtain ⟨m, hm⟩ : ∃ m, L.length = m := ⟨_, rfl⟩
        have HM := Lib.hid hm
        have hmk : m ≤ k := by omega
        clear he hm hLk
        go_wp2_with ((at_builtin; refine list_push elem_str (by rfl) (.tmp 20) (.tmp 25) 41 (by rfl) Tryz.underlying41 w.heap.size _ L x (by rfl) (HO.out.alloc _) m HM.out wr.heap.size 1 (by rfl) (fun i u hu => ((Bk.new wr #[.string x] 9).cell i).trans (by simpa [sC] using hu)) (by unfold maxLen; omega) (by omega) (by simp only [World.size_alloc]; omega) ?_; intro g5 cap5 w5 hown5 hgrow5 hat5 hlt5 hkeep5; have HO5 := Lib.hid hown5; have HG5 := Lib.hid hgrow5; clear hown5 hgrow5 hat5 hkeep5))
        go_roundw
        case rel => exact ⟨k + 1, k + 1, L ++ [x], by omega, Nat.le_refl _, by go_num, by go_num, by rw [List.length_append, HM.out]; simp; omega, hnx, HO5.out, (hB.alloc hBs _).grown HG5.out (by simp only [World.size_alloc]; omega) HV.out⟩
        case measure => (simp [intOf]; try omega)
      · have hnx := Lib.hid (hcut.out.miss hlt hf he)
        have heq := u8_beq_false he
        clear he
        go_wp2_with fail
        go_roundw
        case rel => exact ⟨k + 1, fr, L, by omega, by omega, by go_num, rfl, by omega, hnx, HO.out, hB⟩
        case measure => (simp [intOf]; try omega)
    · obtain rfl : k = s.size := by omega
      have hE := Lib.hid hcut.out.end
      obtain ⟨x, hx⟩ : ∃ x, s.extract fr s.size = x := ⟨_, rfl⟩
      have HX := Lib.hid hx
      obtain ⟨m, hm⟩ : ∃ m, L.length = m := ⟨_, rfl⟩
      have HM := Lib.hid hm
      have hmk : m ≤ s.size := by omega
      clear hm hLk
      go_wp2_with ((at_builtin; refine list_push elem_str (by rfl) (.tmp 29) (.tmp 33) 41 (by rfl) Tryz.underlying41 w.heap.size _ L x (by rfl) (HO.out.alloc _) m HM.out wr.heap.size 1 (by rfl) (fun i u hu => ((Bk.new wr #[.string x] 9).cell i).trans (by simpa [sC] using hu)) (by unfold maxLen; omega) (by omega) (by simp only [World.size_alloc]; omega) ?_; intro g5 cap5 w5 hown5 hgrow5 hat5 hlt5 hkeep5; have HO5 := Lib.hid hown5; have HG5 := Lib.hid hgrow5; clear hown5 hgrow5 hat5 hkeep5))
      refine bodyPost_ret (by simp [results, Tryz.results52, go_sem, *]; try rfl) rfl ?_
      have e1 : L ++ [x] = splitBs c s := by rw [← HX.out]; exact hE.out
      have e2 : m + 1 = (splitBs c s).length := by rw [← e1, List.length_append, HM.out]; rfl
      have h9 := HO5.out
      rw [e1, e2] at h9
      exact ⟨_, _, by rw [e2], h9, (hB.alloc hBs _).grown HG5.out (by simp only [World.size_alloc]; omega) HV.out⟩
end Go.Proofs.YtmdmjnhebbhjbaaGreatDoor
