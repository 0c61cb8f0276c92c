/-
  An ink by value is valid; its points are counted.
-/
import Derived.Test.YtnmmnikoogjhoaaInkOkS
import Derived.Test.YtnmmnikoogjhoaaInkArg
namespace Go.Proofs.Ytnmmnikoogjhoaa
set_option linter.unusedSimpArgs false
set_option linter.unusedVariables false
set_option maxRecDepth 20000
open Go.RowKit
open Go.ChangeShapes Go.WideShapes Go.Deep Go.Joins

theorem sValidInk (A : Option Addr) (n c : Nat) (S : List St) (P : List (List Pt)) (w : World) (h : InkRd w A n S) (hP : ptsOf S = P) (hs : ∀ s ∈ S, s.l.length ≤ 1048576) (hn : n ≤ 1048576) :
    Calls Try.prog 12 #[.agg #[.slice A n c]] w fun e w' => e = .returned (.bool (inkB P)) ∧ Below w.heap.size w w' := by
  subst hP
  go_enter Try.func12, Try.ntmps12
  go_wp2_with fail
  refine (l02Ok_any _ 0 A n c S _ (by go_simp) (h.alloc _) hs hn).mono ?_
  rintro e w2 ⟨rfl, hb⟩
  go_wp2_with fail
  go_ret
  exact ⟨rfl, Below.next (by go_grown) hb⟩
theorem iValidInk (A : Option Addr) (n c : Nat) (S : List St) (P : List (List Pt)) (w : World) (h : InkRd w A n S) (hP : ptsOf S = P) (hs : ∀ s ∈ S, s.l.length ≤ 1048576) (hn : n ≤ 1048576) :
    Calls Try.prog 14 #[.agg #[.slice A n c]] w fun e w' => e = .returned (.bool (inkB P)) ∧ Below w.heap.size w w' := by
  subst hP
  exact validInk_any A n c S w h hs hn

theorem inkB_true {S : List St} (h : inkB (ptsOf S) = true) : S.length ≤ 16 ∧ ∀ (k : Nat) (hk : k < S.length), strB S[k].l = true := by
  simp only [inkB, ikAll, Bool.and_eq_true, decide_eq_true_eq] at h
  refine ⟨by have := h.2; rwa [ptsOf_len] at this, fun k hk => ?_⟩
  have h1 := (h.1 ⟨k, by rw [ptsOf_len]; exact hk⟩).1
  simp only [ptsOf_get S k (by rw [ptsOf_len]; exact hk) hk] at h1
  exact h1
def cntP (P : List (List Pt)) : Nat := (P.map List.length).sum
theorem sumL_take (S : List St) (k : Nat) (hk : k ≤ S.length) : sumL S k = cntP ((ptsOf S).take k) := by
  induction k with
  | zero => simp [sumL, cntP]
  | succ k ih =>
    have hk' : k < S.length := hk
    rw [sumL_next hk', ih (by omega), List.take_succ_eq_append_getElem (by rw [ptsOf_len]; exact hk'), ptsOf_get S k (by rw [ptsOf_len]; exact hk') hk']
    simp [cntP]
theorem sumL_all {S : List St} {n : Nat} (h : S.length = n) : sumL S n = cntP (ptsOf S) := by rw [sumL_take S n (by omega), List.take_of_length_le (by rw [ptsOf_len]; omega)]
def cntR (P : List (List Pt)) : Int × Int := if inkB P = true then ((cntP P : Int), 0) else (0, 1)

set_option maxHeartbeats 4000000 in
theorem iPointCount (A : Option Addr) (n c : Nat) (S : List St) (P : List (List Pt)) (w : World) (h : InkRd w A n S) (hP : ptsOf S = P) (hs : ∀ s ∈ S, s.l.length ≤ 1048576) (hn : n ≤ 1048576) :
    Calls Try.prog 19 #[.agg #[.slice A n c]] w fun e w' => e = .returned (.tuple #[.int .i64 (cntR P).1, .int .i64 (cntR P).2]) ∧ Below w.heap.size w w' := by
  subst hP
  have hR : Hid (cntR (ptsOf S) = if inkB (ptsOf S) = true then ((sumL S n : Int), 0) else (0, 1)) := by rw [Hid, sumL_all h.len]; rfl
  have HV := validInk_any A n c S (w.alloc (.cells #[.slice A n c] 29)) (h.alloc _) hs hn
  cases h1 : inkB (ptsOf S)
  · rw [h1] at HV
    have H1 := Lib.hid h1
    clear h1
    go_enter Try.func19, Try.ntmps19
    go_wp2_with fail
    refine HV.mono ?_
    rintro e w2 ⟨rfl, hb⟩
    go_wp2_with fail
    go_ret2
    exact ⟨by rw [hR.out, H1.out]; rfl, Below.next (by go_grown) hb⟩
  · rw [h1] at HV
    obtain ⟨hn16, hstr⟩ := inkB_true h1
    rw [h.len] at hn16
    have HA0 := Lib.hid (h.alloc (.cells #[.slice A n c] 29))
    have LA := Lib.hid h.len
    replace hR : Hid (cntR (ptsOf S) = ((sumL S n : Int), 0)) := by rw [Hid, hR.out, h1]; rfl
    clear h1 h
    go_enter Try.func19, Try.ntmps19
    go_wp2_with fail
    refine HV.mono ?_
    rintro e w2 ⟨rfl, hb⟩
    clear HV
    have hcs : w2.cell? ⟨w.heap.size, 0, none⟩ = some (.slice A n c) := (hb.cell (p := ⟨w.heap.size, 0, none⟩) (by simp)).trans (by go_simp)
    have hws : w.heap.size < w2.heap.size := by have := hb.size; simp at this; omega
    have HA := Lib.hid (HA0.out.below hb)
    have hT : Below w.heap.size w w2 := Below.next (by go_grown) hb
    clear HA0 hb
    go_wp2_with fail
    go_loopw [4, 13] (fun qv i wr => ∃ k q : Nat, k ≤ n ∧ i = .int .i64 (k : Int) ∧ qv = .int .i64 (q : Int) ∧ q ≤ 60 * k ∧ Hid (sumL S k = q) ∧ Below w2.heap.size w2 wr) (fun _ i _ => n - (intOf i).toNat)
    case atStart => exact ⟨0, 0, Nat.zero_le _, rfl, rfl, by omega, rfl, Below.refl _ _⟩
    case round =>
      obtain ⟨k, q, hk, rfl, rfl, hq, hsum, hB⟩ := hrel
      have hW := Below.next hT hB
      have hBs := hB.size
      by_cases hlt : k < n
      · have ka : k < S.length := by have := LA.out; omega
        obtain ⟨b1, o1, rfl, l1, c1, p1⟩ := (HA.out.below hB).at ka
        obtain ⟨_, h60, _, _⟩ := strB_true (hstr k ka)
        have hnx := Lib.hid (sumL_next ka)
        clear p1
        go_wp2_with fail
        go_roundw
        case rel => exact ⟨k + 1, q + S[k].l.length, by omega, by go_num, by go_num, by omega, by rw [Hid, hnx.out, hsum.out], by go_grown⟩
        case measure => simp [intOf]; omega
      · obtain rfl : k = n := by omega
        go_wp2_with fail
        go_ret2
        refine ⟨?_, hW⟩
        rw [hR.out, hsum.out]
        try rfl

set_option maxHeartbeats 4000000 in
theorem l02Count_any (b o : Nat) (A : Option Addr) (n c : Nat) (S : List St) (w : World) (hcell : w.cell? ⟨b, o, none⟩ = some (.slice A n c)) (h : InkRd w A n S) (hn16 : n ≤ 16) (hstr : ∀ (k : Nat) (hk : k < S.length), strB S[k].l = true) :
    Calls Try.prog 51 #[.pointer (some ⟨b, o, none⟩)] w fun e w' => e = .returned (.int .i64 (sumL S n : Int)) ∧ Below w.heap.size w w' := by
  have HA := Lib.hid h
  have LA := Lib.hid h.len
  clear h
  have hcb : b < w.heap.size := block_lt_of_cell hcell
  go_enter Try.func51, Try.ntmps51
  go_wp2_with fail
  go_loopw [3, 4] (fun qv i wr => ∃ k q : Nat, k ≤ n ∧ i = .int .i64 (k : Int) ∧ qv = .int .i64 (q : Int) ∧ q ≤ 60 * k ∧ Hid (sumL S k = q) ∧ Below w.heap.size w wr) (fun _ i _ => n - (intOf i).toNat)
  case atStart => exact ⟨0, 0, Nat.zero_le _, rfl, rfl, by omega, rfl, Below.refl _ _⟩
  case round =>
    obtain ⟨k, q, hk, rfl, rfl, hq, hsum, hB⟩ := hrel
    have hcs : wr.cell? ⟨b, o, none⟩ = some (.slice A n c) := (hB.cell (p := ⟨b, o, none⟩) hcb).trans hcell
    have hcb2 : b < wr.heap.size := Nat.lt_of_lt_of_le hcb hB.size
    by_cases hlt : k < n
    · have ka : k < S.length := by have := LA.out; omega
      obtain ⟨b1, o1, rfl, l1, c1, p1⟩ := (HA.out.below hB).at ka
      obtain ⟨_, h60, _, _⟩ := strB_true (hstr k ka)
      have hnx := Lib.hid (sumL_next ka)
      clear p1
      go_wp2_with fail
      go_roundw
      case rel => exact ⟨k + 1, q + S[k].l.length, by omega, by go_num, by go_num, by omega, by rw [Hid, hnx.out, hsum.out], hB⟩
      case measure => simp [intOf]; omega
    · obtain rfl : k = n := by omega
      go_wp2_with fail
      go_ret
      exact ⟨ret_int (by rw [hsum.out]), hB⟩

set_option maxHeartbeats 4000000 in
theorem sPointCount (A : Option Addr) (n c : Nat) (S : List St) (P : List (List Pt)) (w : World) (h : InkRd w A n S) (hP : ptsOf S = P) (hs : ∀ s ∈ S, s.l.length ≤ 1048576) (hn : n ≤ 1048576) :
    Calls Try.prog 18 #[.agg #[.slice A n c]] w fun e w' => e = .returned (.tuple #[.int .i64 (cntR P).1, .int .i64 (cntR P).2]) ∧ Below w.heap.size w w' := by
  subst hP
  have hR : Hid (cntR (ptsOf S) = if inkB (ptsOf S) = true then ((sumL S n : Int), 0) else (0, 1)) := by rw [Hid, sumL_all h.len]; rfl
  have HV := l02Ok_any w.heap.size 0 A n c S (w.alloc (.cells #[.slice A n c] 29)) (by go_simp) (h.alloc _) hs hn
  cases h1 : inkB (ptsOf S)
  · rw [h1] at HV
    have H1 := Lib.hid h1
    clear h1
    go_enter Try.func18, Try.ntmps18
    go_wp2_with fail
    refine HV.mono ?_
    rintro e w2 ⟨rfl, hb⟩
    go_wp2_with fail
    go_ret2
    exact ⟨by rw [hR.out, H1.out]; rfl, Below.next (by go_grown) hb⟩
  · rw [h1] at HV
    obtain ⟨hn16, hstr⟩ := inkB_true h1
    rw [h.len] at hn16
    have HA0 := Lib.hid (h.alloc (.cells #[.slice A n c] 29))
    replace hR : Hid (cntR (ptsOf S) = ((sumL S n : Int), 0)) := by rw [Hid, hR.out, h1]; rfl
    clear h1 h
    go_enter Try.func18, Try.ntmps18
    go_wp2_with fail
    refine HV.mono ?_
    rintro e w2 ⟨rfl, hb⟩
    clear HV
    have hcs : w2.cell? ⟨w.heap.size, 0, none⟩ = some (.slice A n c) := (hb.cell (p := ⟨w.heap.size, 0, none⟩) (by simp)).trans (by go_simp)
    have hws : w.heap.size < w2.heap.size := by have := hb.size; simp at this; omega
    have HA := Lib.hid (HA0.out.below hb)
    have hT : Below w.heap.size w w2 := Below.next (by go_grown) hb
    clear HA0 hb
    go_wp2_with fail
    refine (l02Count_any _ 0 A n c S _ hcs HA.out hn16 hstr).mono ?_
    rintro e w3 ⟨rfl, hb3⟩
    have hW := Below.next hT hb3
    clear hb3
    go_wp2_with fail
    go_ret2
    refine ⟨?_, hW⟩
    rw [hR.out]
    try rfl
end Go.Proofs.Ytnmmnikoogjhoaa
