/-
  Numbers in decimal, separated by commas; texts joined.
-/
import Derived.Test.YtmdmjnhebbhjbaaGreatDoorTxtPlain
import Derived.Test.YtmdmjnhebbhjbaaGreatDoorBuilder
import Derived.Test.YtmdmjnhebbhjbaaGreatDoorDecimal
namespace Go.Proofs.YtmdmjnhebbhjbaaGreatDoor
set_option linter.unusedSimpArgs false
set_option linter.unusedVariables false
set_option maxRecDepth 20000
open Go.RowKit
open Go.ChangeShapes Go.WideShapes Go.Deep Go.Joins

theorem join_le {c : UInt8} {M : Nat} : ∀ {ps : List (List UInt8)}, (∀ p ∈ ps, p.length ≤ M) → (jnB c ps).length ≤ (M + 1) * ps.length
  | [], _ => by show (Lib.join [] _).length ≤ _; rw [Lib.join_nil]; simp
  | [p], h => by rw [jnB_one]; have := h p (by simp); simp; omega
  | p :: q :: r, h => by
    have h1 := h p (by simp)
    have h2 := join_le (c := c) (M := M) (ps := q :: r) fun x hx => h x (List.mem_cons_of_mem _ hx)
    rw [jnB_cons, List.length_append, List.length_cons]
    have e : (M + 1) * (p :: q :: r).length = (M + 1) * (q :: r).length + (M + 1) := by rw [List.length_cons, Nat.mul_add, Nat.mul_one]
    rw [e]
    omega
theorem join_ge {c : UInt8} : ∀ (ps : List (List UInt8)), ps.length ≤ (jnB c ps).length + 1
  | [] => by simp
  | [p] => by simp
  | p :: q :: r => by
    have h2 := join_ge (c := c) (q :: r)
    rw [jnB_cons]
    simp only [List.length_append, List.length_cons] at h2 ⊢
    omega
def nums (l : List Int) : Prop := ∀ x ∈ l, -1000000000000000000 < x ∧ x < 1000000000000000000
/-- numbers in decimal, separated by commas -/
def comL (l : List Int) : List UInt8 := jnB 44 (l.map Lib.itoa)
theorem comL_le {l : List Int} (h : nums l) : (comL l).length ≤ 20 * l.length := by
  have h1 := join_le (c := 44) (M := 19) (ps := l.map Lib.itoa) fun p hp => by
    obtain ⟨x, hx, rfl⟩ := List.mem_map.1 hp
    exact itoa_len (h x hx).1 (h x hx).2
  rw [List.length_map] at h1
  exact h1
def wordsI (l : List Int) (k : Nat) : List ByteArray := (l.take k).map fun x => bs (Lib.itoa x)
theorem wordsI_len {l : List Int} {k : Nat} (h : k ≤ l.length) : (wordsI l k).length = k := by simp [wordsI, h]
theorem wordsI_next {l : List Int} {k : Nat} (h : k < l.length) : wordsI l (k + 1) = wordsI l k ++ [bs (Lib.itoa l[k])] := by
  unfold wordsI
  rw [List.take_succ_eq_append_getElem h, List.map_append]
  rfl
theorem wordsI_all {l : List Int} {k : Nat} (h : l.length ≤ k) : (wordsI l k).map (·.data.toList) = l.map Lib.itoa := by
  unfold wordsI
  rw [List.take_of_length_le h, List.map_map]
  rfl
theorem rowOf_sC' (l : List ByteArray) : rowOf sC l = l.map Value.string := by
  induction l with
  | nil => rfl
  | cons a l ih =>
    have e : rowOf sC (a :: l) = sC a ++ rowOf sC l := rfl
    rw [e, ih]; rfl
/-- texts of one's own, joined -/
theorem join_own {base N c : Nat} {A : Option Addr} {W : List ByteArray} {d : UInt8} (w : World) (h : Own sC 9 1 w base (.slice A N c) W) (hN : W.length = N) (hb : (jnB d (W.map (·.data.toList))).length ≤ 140737488355327) :
    Calls Tryz.prog 78 #[.slice A N c, .string (bs [d])] w fun e w' => e = .returned (.string (bs (jnB d (W.map (·.data.toList))))) ∧ Below w.heap.size w w' := by
  obtain ⟨A2, c2, e, h1, h2, hr⟩ := h.rd
  injection e with e1 e2 e3
  subst e1; subst e3
  rcases Nat.eq_zero_or_pos N with hz | hz
  · have hW : W = [] := List.eq_nil_of_length_eq_zero (by omega)
    subst hW
    subst hz
    refine (Tryz.strings_Join_none A c (bs [d]) w).mono ?_
    rintro e w' ⟨rfl, rfl⟩
    exact ⟨rfl, Below.refl _ _⟩
  · obtain ⟨b, off, rfl, hlt, hc⟩ := hr.2 (by omega)
    subst hN
    have hlen := h.lt b rfl
    refine (Tryz.strings_Join b off c W (bs [d]) w (fun j x hj => hc j _ ?_) hlt ?_ h1 (Nat.le_trans hb (by omega))).mono ?_
    · rw [rowOf_sC']
      simp [hj]
    · have h4 : W.length ≤ 9223372036854775807 := by omega
      rcases Nat.lt_or_ge 140737488355328 W.length with h5 | h5
      · exfalso
        have h6 := join_ge (c := d) (W.map (·.data.toList))
        rw [List.length_map] at h6
        omega
      · exact h5
    · rintro e w' ⟨rfl, hb'⟩
      exact ⟨rfl, hb'⟩
set_option maxHeartbeats 4000000 in
theorem commasOf_any (A : Option Addr) (n c : Nat) (l : List Int) (w : World) (ha : Rd w A n 1 (rowOf iC l)) (hl : l.length = n) (hn : n ≤ 1048576) (hb : nums l) (ht : Tab10 w) :
    Calls Tryz.prog 66 #[.slice A n c] w fun e w' => e = .returned (.string (bs (comL l))) ∧ Below w.heap.size w w' := by
  have HA := Lib.hid ha
  have HL := Lib.hid hl
  have HT := Lib.hid ht
  clear ha hl ht
  go_enter Tryz.func66, Tryz.ntmps66
  go_wp2_with fail
  go_loopw [3, 8] (fun v i wr => ∃ k : Nat, k ≤ n ∧ i = .int .i64 (k : Int) ∧ Own sC 9 1 wr w.heap.size v (wordsI l k) ∧ Below w.heap.size w wr) (fun _ i _ => n - (intOf i).toNat)
  case atStart => exact ⟨0, Nat.zero_le _, rfl, Own.nil _ _ _ _ _, Below.refl _ _⟩
  case round =>
    obtain ⟨k, hk, rfl, hown, hB⟩ := hrel
    have hBs := hB.size
    have HO := Lib.hid hown
    have HV : Hid (∀ b, u3.ownBlock = some b → w.heap.size ≤ b) := fun b hb => (hown.lt b hb).1
    clear hown
    by_cases hlt : k < n
    · have ka : k < l.length := by rw [HL.out]; exact hlt
      obtain ⟨b1, o1, rfl, l1, c0⟩ := (HA.out.below hB).at iC_len HL.out ka
      have d0 : wr.cell? ⟨b1, o1 + k, none⟩ = some (.int .i64 l[k]) := by simpa using c0 0 _ rfl
      have hx := hb _ (List.getElem_mem ka)
      have hnx : Hid (wordsI l (k + 1) = wordsI l k ++ [bs (Lib.itoa l[k])]) := wordsI_next ka
      have hwl : Hid ((wordsI l k).length = k) := wordsI_len (by omega)
      clear c0
      go_wp2_with fail
      refine (decimal_any l[k] (by omega) (by omega) _ (HT.out.below hB)).mono ?_
      rintro e w2 ⟨rfl, hb2⟩
      have hB2 := Below.next hB hb2
      have hB2s := hB2.size
      have HO2 := Lib.hid (HO.out.next hb2)
      clear hb2
      go_wp2_with ((at_builtin; refine list_push elem_str (by rfl) (.tmp 12) (.tmp 15) 41 (by rfl) Tryz.underlying41 w.heap.size _ (wordsI l k) (bs (Lib.itoa l[k])) (by rfl) (HO2.out.alloc _) k hwl.out w2.heap.size 1 (by rfl) (fun i u hu => ((Bk.new w2 #[.string (bs (Lib.itoa l[k]))] 9).cell i).trans (by simpa [sC] using hu)) (by unfold maxLen; omega) (by omega) (by simp only [World.size_alloc]; omega) ?_; intro g5 cap5 w5 hown5 hgrow5 hat5 hlt5 hkeep5; have HO5 := Lib.hid hown5; have HG5 := Lib.hid hgrow5; clear hown5 hgrow5 hat5 hkeep5))
      go_roundw
      case rel => exact ⟨k + 1, by omega, by go_num, by rw [hnx.out]; exact HO5.out, (hB2.alloc hB2s _).grown HG5.out (by simp only [World.size_alloc]; omega) HV.out⟩
      case measure => (simp [intOf]; try omega)
    · obtain rfl : k = n := by omega
      have hwl : Hid ((wordsI l k).length = k) := wordsI_len (by rw [HL.out]; exact Nat.le_refl _)
      have hall : Hid ((wordsI l k).map (·.data.toList) = l.map Lib.itoa) := wordsI_all (by rw [HL.out]; exact Nat.le_refl _)
      have hle := comL_le hb
      rw [HL.out] at hle
      obtain ⟨A2, c2, hv, _, _, _⟩ := HO.out.rd
      rw [hwl.out] at hv
      subst hv
      go_wp2_with fail
      have hj := join_own (d := 44) wr HO.out hwl.out (by rw [hall.out]; show (comL l).length ≤ _; omega)
      rw [hall.out] at hj
      refine hj.mono ?_
      rintro e w3 ⟨rfl, hb3⟩
      have hB3 := Below.next hB hb3
      clear hb3 hj
      go_wp2_with fail
      go_ret
      exact ⟨rfl, hB3⟩
end Go.Proofs.YtmdmjnhebbhjbaaGreatDoor
