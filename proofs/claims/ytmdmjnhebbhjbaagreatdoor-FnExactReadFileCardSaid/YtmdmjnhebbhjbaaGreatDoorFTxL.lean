/-
  The text of a file, piece by piece, and how long it is.
-/
import Derived.Test.YtmdmjnhebbhjbaaGreatDoorFTxP
import Derived.Test.YtmdmjnhebbhjbaaGreatDoorInkTx
namespace Go.Proofs.YtmdmjnhebbhjbaaGreatDoor
set_option linter.unusedSimpArgs false
set_option linter.unusedVariables false
set_option maxRecDepth 20000
open Go.RowKit
open Go.ChangeShapes Go.WideShapes Go.Deep Go.Joins

theorem endLn_snoc (L : List (List UInt8)) (l : List UInt8) : endLn (L ++ [l]) = endLn L ++ (l ++ [10]) := by
  unfold endLn
  rw [List.map_append, List.flatten_append]
  simp
theorem endLn_nil : endLn [] = [] := rfl
theorem endLn_le {M : Nat} : ∀ {L : List (List UInt8)}, (∀ l ∈ L, l.length ≤ M) → (endLn L).length ≤ (M + 1) * L.length
  | [], _ => by simp [endLn]
  | l :: L, h => by
    have h1 := h l (by simp)
    have h2 := endLn_le (M := M) (L := L) fun x hx => h x (List.mem_cons_of_mem _ hx)
    have e : endLn (l :: L) = (l ++ [10]) ++ endLn L := rfl
    rw [e, List.length_append, List.length_append, List.length_singleton, List.length_cons, Nat.mul_add, Nat.mul_one]
    omega
theorem chTx_is (c : Ch) : chTx c = wCh ++ (32 :: (c.name.data.toList ++ (32 :: (c.unit.data.toList ++ (32 :: (Lib.itoa c.low ++ (32 :: Lib.itoa c.high))))))) := by
  unfold chTx
  rw [jnB_cons, jnB_cons, jnB_cons, jnB_cons, jnB_one]
theorem noTx_is (n : No) : noTx n = wNo ++ (32 :: (Lib.itoa n.fr ++ (32 :: (Lib.itoa n.til ++ (32 :: n.text.data.toList))))) := by
  unfold noTx
  rw [jnB_cons, jnB_cons, jnB_cons, jnB_one]
/-- the first rows of a stroke's line -/
def stTo (s : List (List Int)) (j : Nat) : List UInt8 := jnB 32 (wSt :: (s.take j).map comL)
theorem stTo_zero (s : List (List Int)) : stTo s 0 = wSt := by unfold stTo; rw [List.take_zero]; exact jnB_one _ _
theorem stTo_next {s : List (List Int)} {j : Nat} (h : j < s.length) : stTo s (j + 1) = stTo s j ++ (32 :: comL s[j]) := by
  unfold stTo
  rw [List.take_succ_eq_append_getElem h, List.map_append, List.map_singleton, ← List.cons_append, jnB_snoc _ _ _ (by simp)]
theorem stTo_all {s : List (List Int)} {j : Nat} (h : s.length ≤ j) : stTo s j = stTx s := by unfold stTo stTx; rw [List.take_of_length_le h]
theorem comL_6 {r : List Int} (h : nums r) (h6 : r.length ≤ 6) : (comL r).length ≤ 120 := by have := comL_le h; omega
theorem stTo_le {s : List (List Int)} (h : ∀ r ∈ s, nums r ∧ r.length ≤ 6) : ∀ j, j ≤ s.length → (stTo s j).length ≤ 6 + 121 * j
  | 0, _ => by rw [stTo_zero]; decide
  | j + 1, hj => by
    have h1 := stTo_le h j (by omega)
    obtain ⟨h2, h3⟩ := h _ (List.getElem_mem (show j < s.length by omega))
    have h4 := comL_6 h2 h3
    rw [stTo_next (by omega), List.length_append, List.length_cons]
    omega
/-- what is known of a valid file's numbers -/
theorem ok_rows {p : FlP} (h : FileOk p) : ∀ s ∈ p.st, s.length ≤ 60 ∧ ∀ r ∈ s, nums r ∧ r.length ≤ 6 := fun s hs => by
  have h1 := h.sts s hs
  refine ⟨h1.hi, fun r hr => ⟨rowOk_nums (chB_all h) (h1.rows r hr), ?_⟩⟩
  have h2 := (h1.rows r hr).1
  have h3 := h.c6
  omega
theorem ok_ch {c : Ch} (h : chB c = true) : c.name.size ≤ 12 ∧ c.unit.size ≤ 12 := by
  unfold chB at h
  simp only [Bool.and_eq_true] at h
  have h1 := (nameB_ok h.1).2
  have h2 := (nameB_ok h.2.1).2
  exact ⟨h1, h2⟩
theorem itoa_19 {n : Int} (h0 : -1000000000 ≤ n) (h1 : n ≤ 1000000000) : (Lib.itoa n).length ≤ 19 := itoa_len (by omega) (by omega)
theorem chTx_le {c : Ch} (h : chB c = true) : (chTx c).length ≤ 80 := by
  obtain ⟨h1, h2⟩ := ok_ch h
  obtain ⟨_, _, h3, h4, h5, h6⟩ := chB_nums h
  have h7 := itoa_19 h3 h4
  have h8 := itoa_19 h5 h6
  have e1 : c.name.data.toList.length = c.name.size := rfl
  have e2 : c.unit.data.toList.length = c.unit.size := rfl
  have e3 : wCh.length = 7 := rfl
  rw [chTx_is]
  simp only [List.length_append, List.length_cons]
  omega
theorem noTx_le {n : No} (h : nameB n.text.data.toList = true) (hb : 0 ≤ n.fr ∧ n.fr < n.til ∧ n.til ≤ 16) : (noTx n).length ≤ 80 := by
  have h1 := (nameB_ok h).2
  have h7 := itoa_19 (n := n.fr) (by omega) (by omega)
  have h8 := itoa_19 (n := n.til) (by omega) (by omega)
  have e3 : wNo.length = 4 := rfl
  rw [noTx_is]
  simp only [List.length_append, List.length_cons]
  omega
theorem stTx_le {s : List (List Int)} (h : s.length ≤ 60 ∧ ∀ r ∈ s, nums r ∧ r.length ≤ 6) : (stTx s).length ≤ 7266 := by
  have h1 := stTo_le h.2 s.length (Nat.le_refl _)
  rw [stTo_all (Nat.le_refl _)] at h1
  have h2 := h.1
  omega
theorem fileLn_le {p : FlP} (h : FileOk p) : ∀ l ∈ fileLn p, l.length ≤ 7266 := fun l hl => by
  rcases List.mem_append.1 hl with hl | hl
  · obtain ⟨c, hc, rfl⟩ := List.mem_map.1 hl
    have := chTx_le (chB_all h c hc)
    omega
  · rcases List.mem_append.1 hl with hl | hl
    · obtain ⟨s, hs, rfl⟩ := List.mem_map.1 hl
      exact stTx_le (ok_rows h s hs)
    · obtain ⟨n, hn, rfl⟩ := List.mem_map.1 hl
      have := noTx_le (h.nos n hn).2 (noB_bd (h.nos n hn).1 h.s16)
      omega
/-- the lines so far: k1 channels, k2 strokes, k3 notes -/
def lnTo3 (p : FlP) (i j k : Nat) : List (List UInt8) := (p.ch.take i).map chTx ++ ((p.st.take j).map stTx ++ (p.no.take k).map noTx)
theorem lnTo3_le {p : FlP} (h : FileOk p) (i j k : Nat) : (endLn (lnTo3 p i j k)).length ≤ 250000 := by
  have h1 : ∀ l ∈ lnTo3 p i j k, l.length ≤ 7266 := fun l hl => fileLn_le h l (by
    rcases List.mem_append.1 hl with hl | hl
    · obtain ⟨c, hc, rfl⟩ := List.mem_map.1 hl
      exact List.mem_append_left _ (List.mem_map_of_mem (List.mem_of_mem_take hc))
    · rcases List.mem_append.1 hl with hl | hl
      · obtain ⟨s, hs, rfl⟩ := List.mem_map.1 hl
        exact List.mem_append_right _ (List.mem_append_left _ (List.mem_map_of_mem (List.mem_of_mem_take hs)))
      · obtain ⟨n, hn, rfl⟩ := List.mem_map.1 hl
        exact List.mem_append_right _ (List.mem_append_right _ (List.mem_map_of_mem (List.mem_of_mem_take hn))))
  have h2 := endLn_le h1
  have h3 : (lnTo3 p i j k).length ≤ 34 := by
    unfold lnTo3
    simp only [List.length_append, List.length_map]
    have a1 := List.length_take_le' i p.ch
    have a2 := List.length_take_le' j p.st
    have a3 := List.length_take_le' k p.no
    have b1 := h.c6
    have b2 := h.s16
    have b3 := h.n12
    omega
  omega
theorem ln_ch {p : FlP} {k : Nat} (h : k < p.ch.length) : endLn (lnTo3 p (k + 1) 0 0) = endLn (lnTo3 p k 0 0) ++ (chTx p.ch[k] ++ [10]) := by
  rw [← endLn_snoc]
  unfold lnTo3
  rw [List.take_succ_eq_append_getElem h, List.map_append, List.map_singleton]
  simp only [List.take_zero, List.map_nil, List.append_nil, List.append_assoc]
theorem ln_st {p : FlP} {i k : Nat} (h : k < p.st.length) : endLn (lnTo3 p i (k + 1) 0) = endLn (lnTo3 p i k 0) ++ (stTx p.st[k] ++ [10]) := by
  rw [← endLn_snoc]
  unfold lnTo3
  rw [List.take_succ_eq_append_getElem h, List.map_append, List.map_singleton]
  simp only [List.take_zero, List.map_nil, List.append_nil, List.append_assoc]
theorem ln_no {p : FlP} {i j k : Nat} (h : k < p.no.length) : endLn (lnTo3 p i j (k + 1)) = endLn (lnTo3 p i j k) ++ (noTx p.no[k] ++ [10]) := by
  rw [← endLn_snoc]
  unfold lnTo3
  rw [List.take_succ_eq_append_getElem h, List.map_append, List.map_singleton]
  simp only [List.take_zero, List.map_nil, List.append_nil, List.append_assoc]
theorem ln_all (p : FlP) : endLn (lnTo3 p p.ch.length p.st.length p.no.length) = fileTx p := by
  unfold lnTo3 fileTx fileLn
  rw [List.take_length, List.take_length, List.take_length]
theorem ln_zero (p : FlP) : endLn (lnTo3 p 0 0 0) = [] := by simp [lnTo3, endLn]
/-- the first numbers, joined -/
def comTo (l : List Int) (j : Nat) : List UInt8 := jnB 44 ((l.take j).map Lib.itoa)
theorem comTo_zero (l : List Int) : comTo l 0 = [] := by unfold comTo; rw [List.take_zero]; exact Lib.join_nil _
theorem comTo_all {l : List Int} {j : Nat} (h : l.length ≤ j) : comTo l j = comL l := by unfold comTo comL; rw [List.take_of_length_le h]
theorem comTo_next0 {l : List Int} (h : 0 < l.length) : comTo l 1 = comTo l 0 ++ Lib.itoa l[0] := by
  rw [comTo_zero]
  unfold comTo
  rw [List.take_succ_eq_append_getElem h, List.take_zero]
  simp only [List.nil_append, List.map_cons, List.map_nil]
  rw [jnB_one]
theorem comTo_next {l : List Int} {j : Nat} (h : j < l.length) (hj : 0 < j) : comTo l (j + 1) = comTo l j ++ (44 :: Lib.itoa l[j]) := by
  unfold comTo
  rw [List.take_succ_eq_append_getElem h, List.map_append, List.map_singleton, jnB_snoc _ _ _ (by
    intro e
    have h1 := congrArg List.length e
    rw [List.length_map, List.length_take, Nat.min_eq_left (by omega)] at h1
    simp at h1
    omega)]
theorem comTo_le {l : List Int} (h : nums l) (j : Nat) : (comTo l j).length ≤ 20 * l.length := by
  have h1 := comL_le (l := l.take j) fun x hx => h x (List.mem_of_mem_take hx)
  have e : comL (l.take j) = comTo l j := rfl
  rw [e, List.length_take] at h1
  have h2 : min j l.length ≤ l.length := Nat.min_le_right _ _
  have h3 := Nat.mul_le_mul_left 20 h2
  omega
/-- the text that is answered -/
def ftR (b : Bool) (p : FlP) : List UInt8 := if b = true then fileTx p else []
theorem ftR_no (p : FlP) : ftR false p = [] := rfl
theorem ftR_yes (p : FlP) : ftR true p = fileTx p := rfl
end Go.Proofs.YtmdmjnhebbhjbaaGreatDoor
