/-
  An ink that holds the numbers in order is held. An ink of one's own is marked with numbers in order. Inks mapped point by point: the program's mapInk with its closures. A stroke and an ink copied into memory of their own: slices.Clone and the reference's. An ink copied by the reference into memory of its own. Some strokes of an ink, copied: program and reference make the same, or refuse alike. What the laws with an ink for a result share: the marks of a small ink.
-/
import Derived.Test.YtinlhigpmchiaaaGreatDoorInkOka
import Derived.Test.YtinlhigpmchiaaaGreatDoorKda
namespace Go.Proofs.YtinlhigpmchiaaaGreatDoor
set_option linter.unusedSimpArgs false
set_option linter.unusedVariables false
set_option maxRecDepth 20000
open Go.RowKit
open Go.ChangeShapes Go.WideShapes Go.Deep Go.Joins

/-- the strokes of T hold the numbers from k on, as many as S's have points -/
def marked (k : Nat) (T : List St) : Prop := ∀ (j : Nat) (h : j < T.length), T[j].l = marksP (k + 3 * sumL T j) T[j].l.length

set_option maxHeartbeats 4000000 in
theorem heldStrokeS_any (A : Option Addr) (n c k : Nat) (T : List St) (w : World) (h : InkRd w A n T) (hm : marked k T) (hn : n ≤ 1048576) (hsum : sumL T n ≤ 1048576) (hk : k ≤ 2147483648) :
    Calls Tryz.prog 24 #[.slice A n c, .int .i64 (k : Int)] w fun e w' => e = .returned (.int .i64 ((k + 3 * sumL T n : Nat) : Int)) ∧ w = w' := by
  have HA := Lib.hid h
  have LA := Lib.hid h.len
  have HM := Lib.hid hm
  clear h hm
  go_enter Tryz.func24, Tryz.ntmps24
  go_wp2_with fail
  go_loop [1, 5] (fun kk i => ∃ (j q : Nat), j ≤ n ∧ i = .int .i64 (j : Int) ∧ kk = .int .i64 (q : Int) ∧ q ≤ 2147483648 + 3145728 ∧ Hid (k + 3 * sumL T j = q)) (fun _ i => n - (intOf i).toNat)
  case atStart => exact ⟨0, k, by omega, rfl, rfl, by omega, rfl⟩
  case round =>
    obtain ⟨j, q, hj, rfl, rfl, hqb, hq⟩ := hrel
    by_cases hlt : j < n
    · have ka : j < T.length := by have := LA.out; omega
      obtain ⟨b1, o1, rfl, l1, c1, p1⟩ := HA.out.at ka
      have hnx := Lib.hid (sumL_next ka)
      have hmono := sumL_mono T (show j + 1 ≤ n from hlt)
      have hle : T[j].l.length ≤ 1048576 := by have := hnx.out; omega
      have hml := HM.out j ka
      rw [hq.out] at hml
      rw [hml, marksP_len] at p1
      have P1 := Lib.hid p1
      obtain ⟨q2, hq2⟩ : ∃ q2, q + 3 * T[j].l.length = q2 := ⟨_, rfl⟩
      have hq3 : q2 ≤ 2147483648 + 3145728 := by have := hnx.out; have := hq.out; omega
      have hq4 : Hid (k + 3 * sumL T (j + 1) = q2) := by rw [Hid, hnx.out]; have := hq.out; omega
      have HQ := Lib.hid hq2
      clear p1 hml hq2
      go_wp2_with fail
      refine (heldPointS_any T[j].A T[j].l.length T[j].c q _ P1.out hle (by omega)).mono ?_
      rintro e w2 ⟨rfl, rfl⟩
      rw [HQ.out]
      go_wp2_with fail
      go_round
      case rel => exact ⟨j + 1, q2, by omega, by go_num, rfl, hq3, hq4⟩
      case measure => simp [intOf]; omega
    · obtain rfl : j = n := by omega
      go_wp2_with fail
      go_ret
      exact ⟨ret_int (by have := hq.out; omega), rfl⟩

theorem heldInk_any (A : Option Addr) (n c k : Nat) (T : List St) (w : World) (h : InkRd w A n T) (hm : marked k T) (hn : n ≤ 1048576) (hsum : sumL T n ≤ 1048576) (hk : k ≤ 2147483648) :
    Calls Tryz.prog 8 #[.agg #[.slice A n c], .int .i64 (k : Int)] w fun e w' => e = .returned (.int .i64 ((k + 3 * sumL T n : Nat) : Int)) ∧ Below w.heap.size w w' := by
  have HA := Lib.hid (h.alloc (.cells #[.slice A n c] 24))
  have HM := Lib.hid hm
  clear h hm
  obtain ⟨q, hq⟩ : ∃ q, k + 3 * sumL T n = q := ⟨_, rfl⟩
  rw [hq]
  have HQ := Lib.hid hq
  clear hq
  go_enter Tryz.func8, Tryz.ntmps8
  go_wp2_with fail
  refine (heldStrokeS_any A n c k T _ HA.out HM.out hn hsum hk).mono ?_
  rintro e w2 ⟨rfl, rfl⟩
  rw [HQ.out]
  go_wp2_with fail
  go_ret
  exact ⟨rfl, by go_grown⟩
end Go.Proofs.YtinlhigpmchiaaaGreatDoor
namespace Go.Proofs.YtinlhigpmchiaaaGreatDoor
set_option linter.unusedSimpArgs false
set_option linter.unusedVariables false
set_option maxRecDepth 20000
open Go.RowKit
open Go.ChangeShapes Go.WideShapes Go.Deep Go.Joins

def mkS (k : Nat) (S : List St) : List St := (List.range S.length).map fun i => ⟨(S.getD i default).A, (S.getD i default).c, marksP (k + 3 * sumL S i) (S.getD i default).l.length⟩
theorem mkS_len (k : Nat) (S : List St) : (mkS k S).length = S.length := by simp [mkS]
theorem mkS_at (k : Nat) (S : List St) {i : Nat} (h : i < (mkS k S).length) (h2 : i < S.length) : (mkS k S)[i] = ⟨S[i].A, S[i].c, marksP (k + 3 * sumL S i) S[i].l.length⟩ := by
  simp [mkS, List.getD_eq_getElem?_getD, List.getElem?_eq_getElem h2]
theorem mkS_val (k : Nat) (S : List St) {i : Nat} (h : i < (mkS k S).length) (h2 : i < S.length) : (mkS k S)[i].val = S[i].val := by
  rw [mkS_at k S h h2]; simp [St.val, marksP_len]
theorem mkS_sum (k : Nat) (S : List St) (i : Nat) (h : i ≤ S.length) : sumL (mkS k S) i = sumL S i := by
  induction i with
  | zero => rfl
  | succ i ih =>
    have h1 : i < S.length := h
    rw [sumL_next h1, sumL_next (by rw [mkS_len]; exact h1), ih (by omega), mkS_at k S (by rw [mkS_len]; exact h1) h1, marksP_len]
theorem mkS_marked (k : Nat) (S : List St) : marked k (mkS k S) := fun j h => by
  have h2 : j < S.length := by rw [mkS_len] at h; exact h
  rw [mkS_sum k S j (by omega), mkS_at k S h h2, marksP_len]
theorem apt_at {S : List St} (h : S.Pairwise Apt) {i j : Nat} (hi : i < S.length) (hj : j < S.length) (hne : i ≠ j) : ∀ k, S[i].val.ownBlock = some k → some k ≠ S[j].val.ownBlock := fun k hk e => by
  rcases Nat.lt_or_ge i j with hl | hl
  · exact (List.pairwise_iff_getElem.1 h i j hi hj hl) k hk e.symm
  · exact (List.pairwise_iff_getElem.1 h j i hj hi (by omega)) k e.symm hk

set_option maxHeartbeats 4000000 in
theorem markStrokeS_any (lo hi : Nat) (A : Option Addr) (n c k : Nat) (S : List St) (w : World) (h : InkOwn w lo hi (.slice A n c) S) (hl : S.length = n) (hn : n ≤ 1048576) (hsum : sumL S n ≤ 1048576) (hk : k ≤ 2147483648) :
    Calls Tryz.prog 23 #[.slice A n c, .int .i64 (k : Int)] w fun e w' => e = .returned (.int .i64 ((k + 3 * sumL S n : Nat) : Int)) ∧ InkOwn w' lo hi (.slice A n c) (mkS k S) ∧ Chg lo hi w w' := by
  have HI := Lib.hid h
  have HL := Lib.hid hl
  clear h hl
  go_enter Tryz.func23, Tryz.ntmps23
  go_wp2_with fail
  go_loopw [1, 5] (fun kk i wr => ∃ (j q : Nat), j ≤ n ∧ i = .int .i64 (j : Int) ∧ kk = .int .i64 (q : Int) ∧ q ≤ 2147483648 + 3145728 ∧ Hid (k + 3 * sumL S j = q) ∧ Hid (∀ (i : Nat) (h : i < S.length), i < j → Own ptC 58 3 wr lo S[i].val (marksP (k + 3 * sumL S i) S[i].l.length)) ∧ Hid (∀ (i : Nat) (h : i < S.length), j ≤ i → Own ptC 58 3 wr lo S[i].val S[i].l) ∧ Hid (Own skC 38 1 wr lo (.slice A n c) S) ∧ Chg lo hi w wr) (fun _ i _ => n - (intOf i).toNat)
  case atStart => exact ⟨0, k, by omega, rfl, rfl, by omega, rfl, fun i h h0 => absurd h0 (by omega), fun i h _ => HI.out.inner.own _ (List.getElem_mem h), HI.out.row, Chg.refl _ _ _⟩
  case round =>
    obtain ⟨j, q, hj, rfl, rfl, hqb, hq, hdone, hleft, hrow, hC⟩ := hrel
    by_cases hlt : j < n
    · have ka : j < S.length := by have := HL.out; omega
      have hrd := hrow.out.rdS HL.out
      obtain ⟨b1, o1, rfl, l1, c0⟩ := hrd.at skC_len HL.out ka
      have c1 : wr.cell? ⟨b1, o1 + j, none⟩ = some (.slice S[j].A S[j].l.length S[j].c) := by simpa [St.val] using c0 0 _ rfl
      have hnx := Lib.hid (sumL_next ka)
      have hmono := sumL_mono S (show j + 1 ≤ n from hlt)
      have hle : S[j].l.length ≤ 1048576 := by have := hnx.out; omega
      obtain ⟨q2, hq2⟩ : ∃ q2, q + 3 * S[j].l.length = q2 := ⟨_, rfl⟩
      have hq3 : q2 ≤ 2147483648 + 3145728 := by have := hnx.out; have := hq.out; omega
      have hq4 : Hid (k + 3 * sumL S (j + 1) = q2) := by rw [Hid, hnx.out]; have := hq.out; omega
      have HQ := Lib.hid hq2
      clear hrd c0 hq2
      go_wp2_with fail
      refine (markPointS_any lo (.slice S[j].A S[j].l.length S[j].c) S[j].l S[j].l.length q _ (hleft.out j ka (Nat.le_refl _)) rfl hle (by omega)).mono ?_
      rintro e w2 ⟨rfl, ho, hg⟩
      have HO := Lib.hid ho
      have HG : Hid (wr.grownBy w2 S[j].val.ownBlock) := hg
      clear ho hg
      rw [HQ.out]
      go_wp2_with fail
      go_roundw
      case rel =>
        refine ⟨j + 1, q2, by omega, by go_num, rfl, hq3, hq4, fun i h hi => ?_, fun i h hi => ?_, ?_, hC.trans (Chg.of_grown HG.out fun b hb => ⟨((HI.out.inner.own _ (List.getElem_mem ka)).lt b hb).1, HI.out.inner.top _ (List.getElem_mem ka) b hb⟩)⟩
        · rcases Nat.lt_or_ge i j with h1 | h1
          · exact (hdone.out i h h1).kept HG.out (apt_at HI.out.inner.apt h ka (by omega))
          · obtain rfl : i = j := by omega
            rw [hq.out]; exact HO.out
        · exact (hleft.out i h (by omega)).kept HG.out (apt_at HI.out.inner.apt h ka (by omega))
        · exact hrow.out.kept HG.out fun b hb e => HI.out.apt _ (List.getElem_mem ka) b e.symm hb
      case measure => simp [intOf]; omega
    · obtain rfl : j = n := by omega
      go_wp2_with fail
      go_ret
      have hgo : ∀ s ∈ mkS k S, ∃ (i : Nat) (h : i < S.length), s.val = S[i].val ∧ s.l = marksP (k + 3 * sumL S i) S[i].l.length := fun s hs => by
        obtain ⟨i, hi, rfl⟩ := List.mem_iff_getElem.1 hs
        have h2 : i < S.length := by rw [mkS_len] at hi; exact hi
        exact ⟨i, h2, mkS_val k S hi h2, by rw [mkS_at k S hi h2]⟩
      have hrw : rowOf skC (mkS k S) = rowOf skC S := by
        have e1 : ∀ L : List St, rowOf skC L = L.map St.val := fun L => by
          induction L with
          | nil => rfl
          | cons a L ih => show skC a ++ rowOf skC L = _; rw [ih]; rfl
        rw [e1, e1]
        refine List.ext_getElem (by simp [mkS_len]) fun i h1 h2 => ?_
        simp only [List.length_map] at h1 h2
        simp only [List.getElem_map]
        exact mkS_val k S h1 h2
      refine ⟨ret_int (by have := hq.out; omega), ⟨?_, HI.out.top, ⟨fun s hs => ?_, fun s hs b hb => ?_, ?_⟩, fun s hs b hb => ?_⟩, hC⟩
      · have := hrow.out
        unfold Own at this ⊢
        rw [hrw, mkS_len]
        exact this
      · obtain ⟨i, hi, e1, e2⟩ := hgo s hs
        rw [e1, e2]
        exact hdone.out i hi (by have := HL.out; omega)
      · obtain ⟨i, hi, e1, e2⟩ := hgo s hs
        rw [e1] at hb
        exact HI.out.inner.top _ (List.getElem_mem hi) b hb
      · refine List.pairwise_iff_getElem.2 fun i j hi hj hij => ?_
        have h2 : i < S.length := by rw [mkS_len] at hi; exact hi
        have h3 : j < S.length := by rw [mkS_len] at hj; exact hj
        have := List.pairwise_iff_getElem.1 HI.out.inner.apt i j h2 h3 hij
        unfold Apt at this ⊢
        rw [mkS_val k S hi h2, mkS_val k S hj h3]
        exact this
      · obtain ⟨i, hi, e1, e2⟩ := hgo s hs
        rw [e1] at hb
        exact HI.out.apt _ (List.getElem_mem hi) b hb

theorem markInk_any (lo hi : Nat) (A : Option Addr) (n c k : Nat) (S : List St) (w : World) (h : InkOwn w lo hi (.slice A n c) S) (hl : S.length = n) (hn : n ≤ 1048576) (hsum : sumL S n ≤ 1048576) (hk : k ≤ 2147483648) :
    Calls Tryz.prog 7 #[.agg #[.slice A n c], .int .i64 (k : Int)] w fun e w' => e = .returned (.int .i64 ((k + 3 * sumL S n : Nat) : Int)) ∧ InkOwn w' lo hi (.slice A n c) (mkS k S) ∧ Chg lo hi w w' := by
  have HI := Lib.hid (h.alloc (.cells #[.slice A n c] 24))
  have HL := Lib.hid hl
  clear h hl
  obtain ⟨q, hq⟩ : ∃ q, k + 3 * sumL S n = q := ⟨_, rfl⟩
  rw [hq]
  have HQ := Lib.hid hq
  clear hq
  go_enter Tryz.func7, Tryz.ntmps7
  go_wp2_with fail
  refine (markStrokeS_any lo hi A n c k S _ HI.out HL.out hn hsum hk).mono ?_
  rintro e w2 ⟨rfl, ho, hc⟩
  have HO := Lib.hid ho
  have HC : Hid (Chg lo hi w w2) := (Chg.of_below (by go_grown)).trans hc
  clear ho hc HI
  rw [HQ.out]
  go_wp2_with fail
  go_ret
  exact ⟨rfl, HO.out, HC.out⟩
end Go.Proofs.YtinlhigpmchiaaaGreatDoor
namespace Go.Proofs.YtinlhigpmchiaaaGreatDoor
set_option linter.unusedSimpArgs false
set_option linter.unusedVariables false
set_option maxRecDepth 20000
open Go.RowKit
open Go.ChangeShapes Go.WideShapes Go.Deep Go.Joins

/-- the first j points, changed -/
def doneP (F : Pt → Pt) (l : List Pt) (j : Nat) : List Pt := (l.take j).map F
theorem doneP_len (F : Pt → Pt) {l : List Pt} {j : Nat} (h : j ≤ l.length) : (doneP F l j).length = j := by simp [doneP, h]
theorem doneP_next (F : Pt → Pt) {l : List Pt} {j : Nat} (h : j < l.length) {q : Pt} (hq : F l[j] = q) : doneP F l (j + 1) = doneP F l j ++ [q] := by
  unfold doneP
  rw [List.take_succ_eq_append_getElem h, List.map_append, ← hq]
  rfl
theorem doneP_all (F : Pt → Pt) (l : List Pt) : doneP F l l.length = l.map F := by unfold doneP; rw [List.take_length]
def mapP (F : Pt → Pt) (P : List (List Pt)) : List (List Pt) := P.map (List.map F)
theorem mapP_len (F : Pt → Pt) (P : List (List Pt)) : (mapP F P).length = P.length := by simp [mapP]
theorem mapP_next (F : Pt → Pt) {S T : List St} {k : Nat} (h : k < S.length) (hT : ptsOf T = (mapP F (ptsOf S)).take k) (t : St) (ht : t.l = S[k].l.map F) : ptsOf (T ++ [t]) = (mapP F (ptsOf S)).take (k + 1) := by
  rw [List.take_succ_eq_append_getElem (by rw [mapP_len, ptsOf_len]; exact h), ← hT]
  simp [ptsOf, mapP, ht]
theorem mapP_all (F : Pt → Pt) {S T : List St} {k : Nat} (h : S.length = k) (hT : ptsOf T = (mapP F (ptsOf S)).take k) : ptsOf T = mapP F (ptsOf S) := by
  rw [hT, List.take_of_length_le (by rw [mapP_len, ptsOf_len]; omega)]
def idP (p : Pt) : Pt := p
theorem mapP_id (P : List (List Pt)) : mapP idP P = P := by
  have e : List.map idP = (id : List Pt → List Pt) := by funext l; simp [show idP = id from rfl]
  unfold mapP
  rw [e]; simp
def mvP (dx dy : Int) (p : Pt) : Pt := ⟨p.x + dx, p.y + dy, p.t⟩

/-- a stroke's row pushed behind the rows so far -/
theorem InkOwn.push {wi W4 w5 : World} {lo hi g n cap : Nat} {v : Value} {T : List St} {t : St} (h : InkOwn wi lo hi v T) (ht : Own ptC 58 3 wi lo t.val t.l) (htb : ∀ k, t.val.ownBlock = some k → hi ≤ k) (hhi : hi ≤ wi.heap.size)
    (h4 : Below wi.heap.size wi W4) (hgrow : W4.grownBy w5 v.ownBlock) (hat : v.ownBlock = some g ∨ g = W4.heap.size) (hlt : g < w5.heap.size) (hown : Own skC 38 1 w5 lo (.slice (some ⟨g, 0, none⟩) n cap) (T ++ [t])) :
    InkOwn w5 lo w5.heap.size (.slice (some ⟨g, 0, none⟩) n cap) (T ++ [t]) := by
  have hsz := h4.size
  have hsz5 := hgrow.size
  have hgo : ∀ k, (Value.slice (some ⟨g, 0, none⟩) n cap).ownBlock = some k → k = g := fun k hk => by simpa [Value.ownBlock, eq_comm] using hk
  have hin : Inner w5 lo hi T := ⟨fun s hs => (h.inner.own s hs).of_block fun k hk => by
      have h1 := (h.inner.own s hs).lt k hk
      rw [hgrow.block k (by omega) (fun e => h.apt s hs k hk e.symm), h4.block k h1.2], h.inner.top, h.inner.apt⟩
  have htn : ∀ k, t.val.ownBlock = some k → v.ownBlock ≠ some k := fun k hk e => by
    have h1 := h.top k e
    have h2 := htb k hk
    omega
  have ht5 : Own ptC 58 3 w5 lo t.val t.l := ht.of_block fun k hk => by
    have h1 := ht.lt k hk
    rw [hgrow.block k (by omega) (fun e => htn k hk e.symm), h4.block k h1.2]
  have hpush : Inner w5 lo w5.heap.size (T ++ [t]) := Inner.push hin ht5 htb (fun k hk => (ht5.lt k hk).2) (by omega)
  refine ⟨hown, fun k hk => by rw [hgo k hk]; exact hlt, hpush, fun s hs k hk e => ?_⟩
  have hkg := hgo k e
  subst hkg
  rw [List.mem_append, List.mem_singleton] at hs
  rcases hs with hs | rfl
  · rcases hat with h1 | h1
    · exact h.apt s hs _ hk h1
    · have h2 := ((h.inner.own s hs).lt _ hk).2
      omega
  · rcases hat with h1 | h1
    · exact htn _ hk h1
    · have h2 := (ht.lt _ hk).2
      omega

end Go.Proofs.YtinlhigpmchiaaaGreatDoor
namespace Go.Proofs.YtinlhigpmchiaaaGreatDoor
set_option linter.unusedSimpArgs false
set_option linter.unusedVariables false
set_option maxRecDepth 20000
open Go.RowKit
open Go.ChangeShapes Go.WideShapes Go.Deep Go.Joins

end Go.Proofs.YtinlhigpmchiaaaGreatDoor
namespace Go.Proofs.YtinlhigpmchiaaaGreatDoor
set_option linter.unusedSimpArgs false
set_option linter.unusedVariables false
set_option maxRecDepth 20000
open Go.RowKit
open Go.ChangeShapes Go.WideShapes Go.Deep Go.Joins

end Go.Proofs.YtinlhigpmchiaaaGreatDoor
namespace Go.Proofs.YtinlhigpmchiaaaGreatDoor
set_option linter.unusedSimpArgs false
set_option linter.unusedVariables false
set_option maxRecDepth 20000
open Go.RowKit
open Go.ChangeShapes Go.WideShapes Go.Deep Go.Joins

theorem within_is {n low high : Int} {b : Bool} (h : Hid (inB n low high = b)) (w : World) :
    Calls Tryz.prog 77 #[.int .i64 n, .int .i64 low, .int .i64 high] w fun e w' => e = .returned (.bool b) ∧ w = w' := by
  rw [← h.out]; exact within_any n low high w
theorem l00In_is {n low high : Int} {b : Bool} (h : Hid (inB n low high = b)) (w : World) :
    Calls Tryz.prog 53 #[.int .i64 n, .int .i64 low, .int .i64 high] w fun e w' => e = .returned (.bool b) ∧ w = w' := by
  rw [← h.out]; exact l00In_any n low high w

/-- s[f:t] -/
theorem run_sub {A : Option Addr} {n c f t : Nat} (hft : f ≤ t) (htn : t ≤ n) (hnc : n ≤ c) : ∃ A' c', (∀ w, (Instr.slice 22 (.slice A n c) (some (.int .i64 (f : Int))) (some (.int .i64 (t : Int))) none).run Tryz.prog w = .ok (.slice A' (t - f) c') w) ∧ (f < t → ∀ b o, A = some ⟨b, o, none⟩ → A' = some ⟨b, o + f, none⟩) := by
  refine ⟨if c = f then A else A.map (·.add (f * 1)), c - f, fun w => ?_, fun hlt b o e => ?_⟩
  · have h1 : Tryz.prog.elem 22 = 38 := by kernel_rfl
    have h2 : Tryz.prog.underlying 22 = some (.slice (Tryz.prog.elem 22)) := by rw [h1]; exact Tryz.underlying22
    obtain ⟨i, hi, _, hsz, _⟩ := info_parts stroke_info
    have h3 : ∀ w, (sizeOf 38).run Tryz.prog w = .ok 1 w := fun w => by simp [sizeOf, typeInfo, hi, hsz]
    rw [run_slice_lh w _ A n c h2 .i64 .i64 (f : Int) (t : Int) (by omega) (by omega) (by omega)]
    simp [h1, h3, Result.andThen, sliced]
  · subst e
    rw [if_neg (by omega)]
    by_cases h0 : f = 0
    · subst h0; simp [Addr.add]
    · simp [Addr.add, h0]
theorem InkRd.sub {w : World} {A A' : Option Addr} {n f t : Nat} {S : List St} (h : InkRd w A n S) (hft : f ≤ t) (htn : t ≤ n) (hA : f < t → ∀ b o, A = some ⟨b, o, none⟩ → A' = some ⟨b, o + f, none⟩) : InkRd w A' (t - f) ((S.drop f).take (t - f)) := by
  have hl : ((S.drop f).take (t - f)).length = t - f := by simp [h.len]; omega
  refine ⟨hl, ?_, fun s hs => h.pts s (List.mem_of_mem_drop (List.mem_of_mem_take hs))⟩
  rcases Nat.lt_or_ge f t with hlt | hge
  · obtain ⟨b, o, e, hb, _⟩ := h.row.2 (show 0 < n by omega)
    have hA' := hA hlt b o e
    subst hA'
    have hr : ∀ L : List St, rowOf skC L = L.map St.val := fun L => by
      induction L with
      | nil => rfl
      | cons a L ih => show skC a ++ rowOf skC L = _; rw [ih]; rfl
    refine ⟨by rw [rowOf_length skC_len, hl], fun _ => ⟨b, o + f, rfl, hb, fun j u hu => ?_⟩⟩
    obtain ⟨b', o', e', _, hc⟩ := h.row.2 (show 0 < n by omega)
    rw [e] at e'
    injection e' with e'
    injection e' with e1 e2
    subst e1; subst e2
    have := hc (f + j) u (by
      rw [hr, List.getElem?_map] at hu ⊢
      rw [List.getElem?_take, List.getElem?_drop] at hu
      split at hu
      · exact hu
      · simp at hu)
    rwa [show o + (f + j) = o + f + j by omega] at this
  · have e : t - f = 0 := by omega
    rw [e]
    simp only [List.take_zero]
    exact Rd.nil _ _ _
theorem ptsOf_sub (S : List St) (f m : Nat) : ptsOf ((S.drop f).take m) = ((ptsOf S).drop f).take m := by simp [ptsOf, List.map_take, List.map_drop]
/-- the strokes from f to t -/
def cutR (P : List (List Pt)) (f t : Int) : List (List Pt) × Int :=
  if inkB P = true then (if inB f 0 t = true then (if t ≤ (P.length : Int) then ((P.drop f.toNat).take (t.toNat - f.toNat), 0) else ([], 2)) else ([], 2)) else ([], 1)
theorem cutR_no {P : List (List Pt)} {f t : Int} (h : inkB P = false) : cutR P f t = ([], 1) := by simp [cutR, h]
theorem cutR_out {P : List (List Pt)} {f t : Int} (h : inkB P = true) (h2 : inB f 0 t = false) : cutR P f t = ([], 2) := by simp [cutR, h, h2]
theorem cutR_far {P : List (List Pt)} {f t : Int} (h : inkB P = true) (h2 : inB f 0 t = true) (h3 : ¬ t ≤ (P.length : Int)) : cutR P f t = ([], 2) := by simp [cutR, h, h2, h3]
theorem cutR_ok {P : List (List Pt)} {f t : Nat} (h : inkB P = true) (h2 : inB (f : Int) 0 (t : Int) = true) (h3 : t ≤ P.length) : cutR P f t = ((P.drop f).take (t - f), 0) := by
  have h4 : (t : Int) ≤ (P.length : Int) := by omega
  simp [cutR, h, h2, h4]
theorem cutR_len (P : List (List Pt)) (f t : Int) : (cutR P f t).1.length ≤ P.length := by
  unfold cutR
  repeat' split
  all_goals simp
  omega
end Go.Proofs.YtinlhigpmchiaaaGreatDoor
namespace Go.Proofs.YtinlhigpmchiaaaGreatDoor
set_option linter.unusedSimpArgs false
set_option linter.unusedVariables false
set_option maxRecDepth 20000
open Go.RowKit
open Go.ChangeShapes Go.WideShapes Go.Deep Go.Joins

/-- an ink as small as a valid one -/
def smallP (L : List (List Pt)) : Prop := L.length ≤ 16 ∧ ∀ l ∈ L, l.length ≤ 60
theorem smallP_nil : smallP [] := ⟨by simp, by simp⟩
theorem smallP_of {P : List (List Pt)} (h : inkB P = true) : smallP P := by
  obtain ⟨S, rfl⟩ : ∃ S, ptsOf S = P := ⟨P.map fun l => ⟨none, 0, l⟩, by unfold ptsOf; rw [List.map_map]; exact List.map_id _⟩
  obtain ⟨h1, h2⟩ := inkB_true h
  refine ⟨by rw [ptsOf_len]; exact h1, fun l hl => ?_⟩
  obtain ⟨k, hk, rfl⟩ := List.mem_iff_getElem.1 hl
  have hk2 : k < S.length := by rw [ptsOf_len] at hk; exact hk
  rw [ptsOf_get S k hk hk2]
  exact (strB_true (h2 k hk2)).2.1
theorem smallP_sub {P Q : List (List Pt)} (h : smallP P) (hl : Q.length ≤ P.length) (hm : ∀ l ∈ Q, l ∈ P) : smallP Q := ⟨Nat.le_trans hl h.1, fun l hl => h.2 l (hm l hl)⟩
theorem small_each {T : List St} {L : List (List Pt)} (h : smallP L) (hp : ptsOf T = L) : ∀ s ∈ T, s.l.length ≤ 60 := fun s hs => h.2 _ (hp ▸ List.mem_map_of_mem hs)
theorem small_big {T : List St} {L : List (List Pt)} (h : smallP L) (hp : ptsOf T = L) : ∀ s ∈ T, s.l.length ≤ 1048576 := fun s hs => Nat.le_trans (small_each h hp s hs) (by omega)
theorem small_sum {T : List St} {L : List (List Pt)} (h : smallP L) (hp : ptsOf T = L) : ∀ k, k ≤ T.length → sumL T k ≤ 60 * k
  | 0, _ => Nat.le_refl _
  | k + 1, hk => by
    have ih := small_sum h hp k (by omega)
    have h1 := small_each h hp _ (List.getElem_mem (show k < T.length by omega))
    rw [sumL_next (show k < T.length by omega)]
    omega
theorem small_len {T : List St} {L : List (List Pt)} {N : Nat} (hp : ptsOf T = L) (hN : L.length = N) : T.length = N := by rw [← hN, ← hp, ptsOf_len]
/-- how far the marks go -/
theorem small_marks {L : List (List Pt)} {mm : Nat} (h : smallP L) (hm : 1 + 3 * cntP L = mm) : mm ≤ 2881 := by
  obtain ⟨S, rfl⟩ : ∃ S, ptsOf S = L := ⟨L.map fun l => ⟨none, 0, l⟩, by unfold ptsOf; rw [List.map_map]; exact List.map_id _⟩
  have h1 := small_sum h rfl S.length (Nat.le_refl _)
  rw [sumL_all (rfl : S.length = S.length)] at h1
  have h2 := h.1
  rw [ptsOf_len] at h2
  omega
theorem markInk_x (lo hi : Nat) (A : Option Addr) (n c : Nat) (T : List St) (w : World) (h : InkOwn w lo hi (.slice A n c) T) (hl : T.length = n) (hn : n + sumL T n ≤ 1048576) :
    Calls Tryz.prog 7 #[.agg #[.slice A n c], .int .i64 1] w fun e w' => ∃ mx : Nat, e = .returned (.int .i64 (mx : Int)) ∧ mx ≤ 3145729 ∧ Chg lo hi w w' := by
  have h1 := markInk_any lo hi A n c 1 T w h hl (by omega) (by omega) (by omega)
  refine h1.mono fun e w' ⟨he, _, hc⟩ => ⟨_, he, by omega, hc⟩
theorem markInk_L (lo hi : Nat) (A : Option Addr) (N c mm : Nat) (T : List St) (L : List (List Pt)) (w : World) (h : InkOwn w lo hi (.slice A N c) T) (hp : ptsOf T = L) (hN : L.length = N) (hs : smallP L) (hm : 1 + 3 * cntP L = mm) :
    Calls Tryz.prog 7 #[.agg #[.slice A N c], .int .i64 1] w fun e w' => e = .returned (.int .i64 (mm : Int)) ∧ InkOwn w' lo hi (.slice A N c) (mkS 1 T) ∧ Chg lo hi w w' := by
  have hl := small_len hp hN
  have h2 := small_sum hs hp N (by omega)
  have h3 := hs.1
  have h4 : 1 + 3 * sumL T N = mm := by rw [sumL_all hl, hp]; exact hm
  have h1 := markInk_any lo hi A N c 1 T w h hl (by omega) (by omega) (by omega)
  rw [h4] at h1
  exact h1
theorem heldInk_L (A : Option Addr) (N c mm : Nat) (T : List St) (L : List (List Pt)) (w : World) (h : InkRd w A N (mkS 1 T)) (hp : ptsOf T = L) (hN : L.length = N) (hs : smallP L) (hm : 1 + 3 * cntP L = mm) :
    Calls Tryz.prog 8 #[.agg #[.slice A N c], .int .i64 1] w fun e w' => e = .returned (.int .i64 (mm : Int)) ∧ Below w.heap.size w w' := by
  have hl := small_len hp hN
  have h2 := small_sum hs hp N (by omega)
  have h3 := hs.1
  have h5 : sumL (mkS 1 T) N = sumL T N := mkS_sum 1 T N (by omega)
  have h4 : 1 + 3 * sumL (mkS 1 T) N = mm := by rw [h5, sumL_all hl, hp]; exact hm
  have h1 := heldInk_any A N c 1 (mkS 1 T) w h (mkS_marked 1 T) (by omega) (by rw [h5]; omega) (by omega)
  rw [h4] at h1
  exact h1
theorem InkOwn.rdM {w : World} {lo hi : Nat} {A : Option Addr} {N c : Nat} {T : List St} (h : InkOwn w lo hi (.slice A N c) (mkS 1 T)) (hl : T.length = N) : InkRd w A N (mkS 1 T) := h.rd (by rw [mkS_len]; exact hl)
theorem cutR_small (P : List (List Pt)) (f t : Int) : smallP (cutR P f t).1 := by
  cases h : inkB P
  · rw [cutR_no h]; exact smallP_nil
  · refine smallP_sub (smallP_of h) (cutR_len P f t) fun l hl => ?_
    unfold cutR at hl
    repeat' split at hl
    all_goals first | exact List.mem_of_mem_drop (List.mem_of_mem_take hl) | simp at hl
end Go.Proofs.YtinlhigpmchiaaaGreatDoor
