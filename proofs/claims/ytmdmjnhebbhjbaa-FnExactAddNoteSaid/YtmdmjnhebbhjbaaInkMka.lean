/-
  An ink that holds the numbers in order is held. An ink of one's own is marked with numbers in order. Inks mapped point by point: the program's mapInk with its closures. A stroke and an ink copied into memory of their own: slices.Clone and the reference's. An ink copied by the reference into memory of its own. Some strokes of an ink, copied: program and reference make the same, or refuse alike. What the laws with an ink for a result share: the marks of a small ink.
-/
import Derived.Test.YtmdmjnhebbhjbaaInkOka
import Derived.Test.YtmdmjnhebbhjbaaKda
namespace Go.Proofs.Ytmdmjnhebbhjbaa
set_option linter.unusedSimpArgs false
set_option linter.unusedVariables false
set_option maxRecDepth 20000
open Go.RowKit
open Go.ChangeShapes Go.WideShapes Go.Deep Go.Joins

/-- the strokes of T hold the numbers from k on, as many as S's have points -/
def marked (k : Nat) (T : List St) : Prop := ∀ (j : Nat) (h : j < T.length), T[j].l = marksP (k + 3 * sumL T j) T[j].l.length

end Go.Proofs.Ytmdmjnhebbhjbaa
namespace Go.Proofs.Ytmdmjnhebbhjbaa
set_option linter.unusedSimpArgs false
set_option linter.unusedVariables false
set_option maxRecDepth 20000
open Go.RowKit
open Go.ChangeShapes Go.WideShapes Go.Deep Go.Joins

def mkS (k : Nat) (S : List St) : List St := (List.range S.length).map fun i => ⟨(S.getD i default).A, (S.getD i default).c, marksP (k + 3 * sumL S i) (S.getD i default).l.length⟩
theorem mkS_len (k : Nat) (S : List St) : (mkS k S).length = S.length := by simp [mkS]
theorem mkS_at (k : Nat) (S : List St) {i : Nat} (h : i < (mkS k S).length) (h2 : i < S.length) : (mkS k S)[i] = ⟨S[i].A, S[i].c, marksP (k + 3 * sumL S i) S[i].l.length⟩ := by
  simp [mkS, List.getD_eq_getElem?_getD, List.getElem?_eq_getElem h2]
theorem mkS_val (k : Nat) (S : List St) {i : Nat} (h : i < (mkS k S).length) (h2 : i < S.length) : (mkS k S)[i].val = S[i].val := by
  rw [mkS_at k S h h2]; simp [St.val, marksP_len]
theorem mkS_sum (k : Nat) (S : List St) (i : Nat) (h : i ≤ S.length) : sumL (mkS k S) i = sumL S i := by
  induction i with
  | zero => rfl
  | succ i ih =>
    have h1 : i < S.length := h
    rw [sumL_next h1, sumL_next (by rw [mkS_len]; exact h1), ih (by omega), mkS_at k S (by rw [mkS_len]; exact h1) h1, marksP_len]
theorem mkS_marked (k : Nat) (S : List St) : marked k (mkS k S) := fun j h => by
  have h2 : j < S.length := by rw [mkS_len] at h; exact h
  rw [mkS_sum k S j (by omega), mkS_at k S h h2, marksP_len]
theorem apt_at {S : List St} (h : S.Pairwise Apt) {i j : Nat} (hi : i < S.length) (hj : j < S.length) (hne : i ≠ j) : ∀ k, S[i].val.ownBlock = some k → some k ≠ S[j].val.ownBlock := fun k hk e => by
  rcases Nat.lt_or_ge i j with hl | hl
  · exact (List.pairwise_iff_getElem.1 h i j hi hj hl) k hk e.symm
  · exact (List.pairwise_iff_getElem.1 h j i hj hi (by omega)) k e.symm hk

end Go.Proofs.Ytmdmjnhebbhjbaa
namespace Go.Proofs.Ytmdmjnhebbhjbaa
set_option linter.unusedSimpArgs false
set_option linter.unusedVariables false
set_option maxRecDepth 20000
open Go.RowKit
open Go.ChangeShapes Go.WideShapes Go.Deep Go.Joins

/-- the first j points, changed -/
def doneP (F : Pt → Pt) (l : List Pt) (j : Nat) : List Pt := (l.take j).map F
theorem doneP_len (F : Pt → Pt) {l : List Pt} {j : Nat} (h : j ≤ l.length) : (doneP F l j).length = j := by simp [doneP, h]
theorem doneP_next (F : Pt → Pt) {l : List Pt} {j : Nat} (h : j < l.length) {q : Pt} (hq : F l[j] = q) : doneP F l (j + 1) = doneP F l j ++ [q] := by
  unfold doneP
  rw [List.take_succ_eq_append_getElem h, List.map_append, ← hq]
  rfl
theorem doneP_all (F : Pt → Pt) (l : List Pt) : doneP F l l.length = l.map F := by unfold doneP; rw [List.take_length]
def mapP (F : Pt → Pt) (P : List (List Pt)) : List (List Pt) := P.map (List.map F)
theorem mapP_len (F : Pt → Pt) (P : List (List Pt)) : (mapP F P).length = P.length := by simp [mapP]
theorem mapP_next (F : Pt → Pt) {S T : List St} {k : Nat} (h : k < S.length) (hT : ptsOf T = (mapP F (ptsOf S)).take k) (t : St) (ht : t.l = S[k].l.map F) : ptsOf (T ++ [t]) = (mapP F (ptsOf S)).take (k + 1) := by
  rw [List.take_succ_eq_append_getElem (by rw [mapP_len, ptsOf_len]; exact h), ← hT]
  simp [ptsOf, mapP, ht]
theorem mapP_all (F : Pt → Pt) {S T : List St} {k : Nat} (h : S.length = k) (hT : ptsOf T = (mapP F (ptsOf S)).take k) : ptsOf T = mapP F (ptsOf S) := by
  rw [hT, List.take_of_length_le (by rw [mapP_len, ptsOf_len]; omega)]
def idP (p : Pt) : Pt := p
theorem mapP_id (P : List (List Pt)) : mapP idP P = P := by
  have e : List.map idP = (id : List Pt → List Pt) := by funext l; simp [show idP = id from rfl]
  unfold mapP
  rw [e]; simp
def mvP (dx dy : Int) (p : Pt) : Pt := ⟨p.x + dx, p.y + dy, p.t⟩

end Go.Proofs.Ytmdmjnhebbhjbaa
namespace Go.Proofs.Ytmdmjnhebbhjbaa
set_option linter.unusedSimpArgs false
set_option linter.unusedVariables false
set_option maxRecDepth 20000
open Go.RowKit
open Go.ChangeShapes Go.WideShapes Go.Deep Go.Joins

end Go.Proofs.Ytmdmjnhebbhjbaa
namespace Go.Proofs.Ytmdmjnhebbhjbaa
set_option linter.unusedSimpArgs false
set_option linter.unusedVariables false
set_option maxRecDepth 20000
open Go.RowKit
open Go.ChangeShapes Go.WideShapes Go.Deep Go.Joins

end Go.Proofs.Ytmdmjnhebbhjbaa
namespace Go.Proofs.Ytmdmjnhebbhjbaa
set_option linter.unusedSimpArgs false
set_option linter.unusedVariables false
set_option maxRecDepth 20000
open Go.RowKit
open Go.ChangeShapes Go.WideShapes Go.Deep Go.Joins

theorem within_is {n low high : Int} {b : Bool} (h : Hid (inB n low high = b)) (w : World) :
    Calls Try.prog 63 #[.int .i64 n, .int .i64 low, .int .i64 high] w fun e w' => e = .returned (.bool b) ∧ w = w' := by
  rw [← h.out]; exact within_any n low high w
theorem l00In_is {n low high : Int} {b : Bool} (h : Hid (inB n low high = b)) (w : World) :
    Calls Try.prog 41 #[.int .i64 n, .int .i64 low, .int .i64 high] w fun e w' => e = .returned (.bool b) ∧ w = w' := by
  rw [← h.out]; exact l00In_any n low high w

theorem InkRd.sub {w : World} {A A' : Option Addr} {n f t : Nat} {S : List St} (h : InkRd w A n S) (hft : f ≤ t) (htn : t ≤ n) (hA : f < t → ∀ b o, A = some ⟨b, o, none⟩ → A' = some ⟨b, o + f, none⟩) : InkRd w A' (t - f) ((S.drop f).take (t - f)) := by
  have hl : ((S.drop f).take (t - f)).length = t - f := by simp [h.len]; omega
  refine ⟨hl, ?_, fun s hs => h.pts s (List.mem_of_mem_drop (List.mem_of_mem_take hs))⟩
  rcases Nat.lt_or_ge f t with hlt | hge
  · obtain ⟨b, o, e, hb, _⟩ := h.row.2 (show 0 < n by omega)
    have hA' := hA hlt b o e
    subst hA'
    have hr : ∀ L : List St, rowOf skC L = L.map St.val := fun L => by
      induction L with
      | nil => rfl
      | cons a L ih => show skC a ++ rowOf skC L = _; rw [ih]; rfl
    refine ⟨by rw [rowOf_length skC_len, hl], fun _ => ⟨b, o + f, rfl, hb, fun j u hu => ?_⟩⟩
    obtain ⟨b', o', e', _, hc⟩ := h.row.2 (show 0 < n by omega)
    rw [e] at e'
    injection e' with e'
    injection e' with e1 e2
    subst e1; subst e2
    have := hc (f + j) u (by
      rw [hr, List.getElem?_map] at hu ⊢
      rw [List.getElem?_take, List.getElem?_drop] at hu
      split at hu
      · exact hu
      · simp at hu)
    rwa [show o + (f + j) = o + f + j by omega] at this
  · have e : t - f = 0 := by omega
    rw [e]
    simp only [List.take_zero]
    exact Rd.nil _ _ _
theorem ptsOf_sub (S : List St) (f m : Nat) : ptsOf ((S.drop f).take m) = ((ptsOf S).drop f).take m := by simp [ptsOf, List.map_take, List.map_drop]
/-- the strokes from f to t -/
def cutR (P : List (List Pt)) (f t : Int) : List (List Pt) × Int :=
  if inkB P = true then (if inB f 0 t = true then (if t ≤ (P.length : Int) then ((P.drop f.toNat).take (t.toNat - f.toNat), 0) else ([], 2)) else ([], 2)) else ([], 1)
theorem cutR_no {P : List (List Pt)} {f t : Int} (h : inkB P = false) : cutR P f t = ([], 1) := by simp [cutR, h]
theorem cutR_out {P : List (List Pt)} {f t : Int} (h : inkB P = true) (h2 : inB f 0 t = false) : cutR P f t = ([], 2) := by simp [cutR, h, h2]
theorem cutR_far {P : List (List Pt)} {f t : Int} (h : inkB P = true) (h2 : inB f 0 t = true) (h3 : ¬ t ≤ (P.length : Int)) : cutR P f t = ([], 2) := by simp [cutR, h, h2, h3]
theorem cutR_ok {P : List (List Pt)} {f t : Nat} (h : inkB P = true) (h2 : inB (f : Int) 0 (t : Int) = true) (h3 : t ≤ P.length) : cutR P f t = ((P.drop f).take (t - f), 0) := by
  have h4 : (t : Int) ≤ (P.length : Int) := by omega
  simp [cutR, h, h2, h4]
theorem cutR_len (P : List (List Pt)) (f t : Int) : (cutR P f t).1.length ≤ P.length := by
  unfold cutR
  repeat' split
  all_goals simp
  omega
end Go.Proofs.Ytmdmjnhebbhjbaa
namespace Go.Proofs.Ytmdmjnhebbhjbaa
set_option linter.unusedSimpArgs false
set_option linter.unusedVariables false
set_option maxRecDepth 20000
open Go.RowKit
open Go.ChangeShapes Go.WideShapes Go.Deep Go.Joins

/-- an ink as small as a valid one -/
def smallP (L : List (List Pt)) : Prop := L.length ≤ 16 ∧ ∀ l ∈ L, l.length ≤ 60
theorem smallP_nil : smallP [] := ⟨by simp, by simp⟩
theorem smallP_of {P : List (List Pt)} (h : inkB P = true) : smallP P := by
  obtain ⟨S, rfl⟩ : ∃ S, ptsOf S = P := ⟨P.map fun l => ⟨none, 0, l⟩, by unfold ptsOf; rw [List.map_map]; exact List.map_id _⟩
  obtain ⟨h1, h2⟩ := inkB_true h
  refine ⟨by rw [ptsOf_len]; exact h1, fun l hl => ?_⟩
  obtain ⟨k, hk, rfl⟩ := List.mem_iff_getElem.1 hl
  have hk2 : k < S.length := by rw [ptsOf_len] at hk; exact hk
  rw [ptsOf_get S k hk hk2]
  exact (strB_true (h2 k hk2)).2.1
theorem smallP_sub {P Q : List (List Pt)} (h : smallP P) (hl : Q.length ≤ P.length) (hm : ∀ l ∈ Q, l ∈ P) : smallP Q := ⟨Nat.le_trans hl h.1, fun l hl => h.2 l (hm l hl)⟩
theorem small_each {T : List St} {L : List (List Pt)} (h : smallP L) (hp : ptsOf T = L) : ∀ s ∈ T, s.l.length ≤ 60 := fun s hs => h.2 _ (hp ▸ List.mem_map_of_mem hs)
theorem small_big {T : List St} {L : List (List Pt)} (h : smallP L) (hp : ptsOf T = L) : ∀ s ∈ T, s.l.length ≤ 1048576 := fun s hs => Nat.le_trans (small_each h hp s hs) (by omega)
theorem small_sum {T : List St} {L : List (List Pt)} (h : smallP L) (hp : ptsOf T = L) : ∀ k, k ≤ T.length → sumL T k ≤ 60 * k
  | 0, _ => Nat.le_refl _
  | k + 1, hk => by
    have ih := small_sum h hp k (by omega)
    have h1 := small_each h hp _ (List.getElem_mem (show k < T.length by omega))
    rw [sumL_next (show k < T.length by omega)]
    omega
theorem small_len {T : List St} {L : List (List Pt)} {N : Nat} (hp : ptsOf T = L) (hN : L.length = N) : T.length = N := by rw [← hN, ← hp, ptsOf_len]
/-- how far the marks go -/
theorem small_marks {L : List (List Pt)} {mm : Nat} (h : smallP L) (hm : 1 + 3 * cntP L = mm) : mm ≤ 2881 := by
  obtain ⟨S, rfl⟩ : ∃ S, ptsOf S = L := ⟨L.map fun l => ⟨none, 0, l⟩, by unfold ptsOf; rw [List.map_map]; exact List.map_id _⟩
  have h1 := small_sum h rfl S.length (Nat.le_refl _)
  rw [sumL_all (rfl : S.length = S.length)] at h1
  have h2 := h.1
  rw [ptsOf_len] at h2
  omega
theorem cutR_small (P : List (List Pt)) (f t : Int) : smallP (cutR P f t).1 := by
  cases h : inkB P
  · rw [cutR_no h]; exact smallP_nil
  · refine smallP_sub (smallP_of h) (cutR_len P f t) fun l hl => ?_
    unfold cutR at hl
    repeat' split at hl
    all_goals first | exact List.mem_of_mem_drop (List.mem_of_mem_take hl) | simp at hl
end Go.Proofs.Ytmdmjnhebbhjbaa
