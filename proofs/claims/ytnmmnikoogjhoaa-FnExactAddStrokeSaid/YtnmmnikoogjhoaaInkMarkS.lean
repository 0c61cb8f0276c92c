/-
  An ink of one's own is marked with numbers in order.
-/
import Derived.Test.YtnmmnikoogjhoaaInkMark
namespace Go.Proofs.Ytnmmnikoogjhoaa
set_option linter.unusedSimpArgs false
set_option linter.unusedVariables false
set_option maxRecDepth 20000
open Go.RowKit
open Go.ChangeShapes Go.WideShapes Go.Deep Go.Joins

def mkS (k : Nat) (S : List St) : List St := (List.range S.length).map fun i => ⟨(S.getD i default).A, (S.getD i default).c, marksP (k + 3 * sumL S i) (S.getD i default).l.length⟩
theorem mkS_len (k : Nat) (S : List St) : (mkS k S).length = S.length := by simp [mkS]
theorem mkS_at (k : Nat) (S : List St) {i : Nat} (h : i < (mkS k S).length) (h2 : i < S.length) : (mkS k S)[i] = ⟨S[i].A, S[i].c, marksP (k + 3 * sumL S i) S[i].l.length⟩ := by
  simp [mkS, List.getD_eq_getElem?_getD, List.getElem?_eq_getElem h2]
theorem mkS_val (k : Nat) (S : List St) {i : Nat} (h : i < (mkS k S).length) (h2 : i < S.length) : (mkS k S)[i].val = S[i].val := by
  rw [mkS_at k S h h2]; simp [St.val, marksP_len]
theorem mkS_sum (k : Nat) (S : List St) (i : Nat) (h : i ≤ S.length) : sumL (mkS k S) i = sumL S i := by
  induction i with
  | zero => rfl
  | succ i ih =>
    have h1 : i < S.length := h
    rw [sumL_next h1, sumL_next (by rw [mkS_len]; exact h1), ih (by omega), mkS_at k S (by rw [mkS_len]; exact h1) h1, marksP_len]
theorem mkS_marked (k : Nat) (S : List St) : marked k (mkS k S) := fun j h => by
  have h2 : j < S.length := by rw [mkS_len] at h; exact h
  rw [mkS_sum k S j (by omega), mkS_at k S h h2, marksP_len]
theorem apt_at {S : List St} (h : S.Pairwise Apt) {i j : Nat} (hi : i < S.length) (hj : j < S.length) (hne : i ≠ j) : ∀ k, S[i].val.ownBlock = some k → some k ≠ S[j].val.ownBlock := fun k hk e => by
  rcases Nat.lt_or_ge i j with hl | hl
  · exact (List.pairwise_iff_getElem.1 h i j hi hj hl) k hk e.symm
  · exact (List.pairwise_iff_getElem.1 h j i hj hi (by omega)) k e.symm hk

set_option maxHeartbeats 4000000 in
theorem markStrokeS_any (lo hi : Nat) (A : Option Addr) (n c k : Nat) (S : List St) (w : World) (h : InkOwn w lo hi (.slice A n c) S) (hl : S.length = n) (hn : n ≤ 1048576) (hsum : sumL S n ≤ 1048576) (hk : k ≤ 2147483648) :
    Calls Try.prog 58 #[.slice A n c, .int .i64 (k : Int)] w fun e w' => e = .returned (.int .i64 ((k + 3 * sumL S n : Nat) : Int)) ∧ InkOwn w' lo hi (.slice A n c) (mkS k S) ∧ Chg lo hi w w' := by
  have HI := Lib.hid h
  have HL := Lib.hid hl
  clear h hl
  go_enter Try.func58, Try.ntmps58
  go_wp2_with fail
  go_loopw [1, 5] (fun kk i wr => ∃ (j q : Nat), j ≤ n ∧ i = .int .i64 (j : Int) ∧ kk = .int .i64 (q : Int) ∧ q ≤ 2147483648 + 3145728 ∧ Hid (k + 3 * sumL S j = q) ∧ Hid (∀ (i : Nat) (h : i < S.length), i < j → Own ptC 72 3 wr lo S[i].val (marksP (k + 3 * sumL S i) S[i].l.length)) ∧ Hid (∀ (i : Nat) (h : i < S.length), j ≤ i → Own ptC 72 3 wr lo S[i].val S[i].l) ∧ Hid (Own skC 52 1 wr lo (.slice A n c) S) ∧ Chg lo hi w wr) (fun _ i _ => n - (intOf i).toNat)
  case atStart => exact ⟨0, k, by omega, rfl, rfl, by omega, rfl, fun i h h0 => absurd h0 (by omega), fun i h _ => HI.out.inner.own _ (List.getElem_mem h), HI.out.row, Chg.refl _ _ _⟩
  case round =>
    obtain ⟨j, q, hj, rfl, rfl, hqb, hq, hdone, hleft, hrow, hC⟩ := hrel
    by_cases hlt : j < n
    · have ka : j < S.length := by have := HL.out; omega
      have hrd := hrow.out.rdS HL.out
      obtain ⟨b1, o1, rfl, l1, c0⟩ := hrd.at skC_len HL.out ka
      have c1 : wr.cell? ⟨b1, o1 + j, none⟩ = some (.slice S[j].A S[j].l.length S[j].c) := by simpa [St.val] using c0 0 _ rfl
      have hnx := Lib.hid (sumL_next ka)
      have hmono := sumL_mono S (show j + 1 ≤ n from hlt)
      have hle : S[j].l.length ≤ 1048576 := by have := hnx.out; omega
      obtain ⟨q2, hq2⟩ : ∃ q2, q + 3 * S[j].l.length = q2 := ⟨_, rfl⟩
      have hq3 : q2 ≤ 2147483648 + 3145728 := by have := hnx.out; have := hq.out; omega
      have hq4 : Hid (k + 3 * sumL S (j + 1) = q2) := by rw [Hid, hnx.out]; have := hq.out; omega
      have HQ := Lib.hid hq2
      clear hrd c0 hq2
      go_wp2_with fail
      refine (markPointS_any lo (.slice S[j].A S[j].l.length S[j].c) S[j].l S[j].l.length q _ (hleft.out j ka (Nat.le_refl _)) rfl hle (by omega)).mono ?_
      rintro e w2 ⟨rfl, ho, hg⟩
      have HO := Lib.hid ho
      have HG : Hid (wr.grownBy w2 S[j].val.ownBlock) := hg
      clear ho hg
      rw [HQ.out]
      go_wp2_with fail
      go_roundw
      case rel =>
        refine ⟨j + 1, q2, by omega, by go_num, rfl, hq3, hq4, fun i h hi => ?_, fun i h hi => ?_, ?_, hC.trans (Chg.of_grown HG.out fun b hb => ⟨((HI.out.inner.own _ (List.getElem_mem ka)).lt b hb).1, HI.out.inner.top _ (List.getElem_mem ka) b hb⟩)⟩
        · rcases Nat.lt_or_ge i j with h1 | h1
          · exact (hdone.out i h h1).kept HG.out (apt_at HI.out.inner.apt h ka (by omega))
          · obtain rfl : i = j := by omega
            rw [hq.out]; exact HO.out
        · exact (hleft.out i h (by omega)).kept HG.out (apt_at HI.out.inner.apt h ka (by omega))
        · exact hrow.out.kept HG.out fun b hb e => HI.out.apt _ (List.getElem_mem ka) b e.symm hb
      case measure => simp [intOf]; omega
    · obtain rfl : j = n := by omega
      go_wp2_with fail
      go_ret
      have hgo : ∀ s ∈ mkS k S, ∃ (i : Nat) (h : i < S.length), s.val = S[i].val ∧ s.l = marksP (k + 3 * sumL S i) S[i].l.length := fun s hs => by
        obtain ⟨i, hi, rfl⟩ := List.mem_iff_getElem.1 hs
        have h2 : i < S.length := by rw [mkS_len] at hi; exact hi
        exact ⟨i, h2, mkS_val k S hi h2, by rw [mkS_at k S hi h2]⟩
      have hrw : rowOf skC (mkS k S) = rowOf skC S := by
        have e1 : ∀ L : List St, rowOf skC L = L.map St.val := fun L => by
          induction L with
          | nil => rfl
          | cons a L ih => show skC a ++ rowOf skC L = _; rw [ih]; rfl
        rw [e1, e1]
        refine List.ext_getElem (by simp [mkS_len]) fun i h1 h2 => ?_
        simp only [List.length_map] at h1 h2
        simp only [List.getElem_map]
        exact mkS_val k S h1 h2
      refine ⟨ret_int (by have := hq.out; omega), ⟨?_, HI.out.top, ⟨fun s hs => ?_, fun s hs b hb => ?_, ?_⟩, fun s hs b hb => ?_⟩, hC⟩
      · have := hrow.out
        unfold Own at this ⊢
        rw [hrw, mkS_len]
        exact this
      · obtain ⟨i, hi, e1, e2⟩ := hgo s hs
        rw [e1, e2]
        exact hdone.out i hi (by have := HL.out; omega)
      · obtain ⟨i, hi, e1, e2⟩ := hgo s hs
        rw [e1] at hb
        exact HI.out.inner.top _ (List.getElem_mem hi) b hb
      · refine List.pairwise_iff_getElem.2 fun i j hi hj hij => ?_
        have h2 : i < S.length := by rw [mkS_len] at hi; exact hi
        have h3 : j < S.length := by rw [mkS_len] at hj; exact hj
        have := List.pairwise_iff_getElem.1 HI.out.inner.apt i j h2 h3 hij
        unfold Apt at this ⊢
        rw [mkS_val k S hi h2, mkS_val k S hj h3]
        exact this
      · obtain ⟨i, hi, e1, e2⟩ := hgo s hs
        rw [e1] at hb
        exact HI.out.apt _ (List.getElem_mem hi) b hb

theorem markInk_any (lo hi : Nat) (A : Option Addr) (n c k : Nat) (S : List St) (w : World) (h : InkOwn w lo hi (.slice A n c) S) (hl : S.length = n) (hn : n ≤ 1048576) (hsum : sumL S n ≤ 1048576) (hk : k ≤ 2147483648) :
    Calls Try.prog 25 #[.agg #[.slice A n c], .int .i64 (k : Int)] w fun e w' => e = .returned (.int .i64 ((k + 3 * sumL S n : Nat) : Int)) ∧ InkOwn w' lo hi (.slice A n c) (mkS k S) ∧ Chg lo hi w w' := by
  have HI := Lib.hid (h.alloc (.cells #[.slice A n c] 29))
  have HL := Lib.hid hl
  clear h hl
  obtain ⟨q, hq⟩ : ∃ q, k + 3 * sumL S n = q := ⟨_, rfl⟩
  rw [hq]
  have HQ := Lib.hid hq
  clear hq
  go_enter Try.func25, Try.ntmps25
  go_wp2_with fail
  refine (markStrokeS_any lo hi A n c k S _ HI.out HL.out hn hsum hk).mono ?_
  rintro e w2 ⟨rfl, ho, hc⟩
  have HO := Lib.hid ho
  have HC : Hid (Chg lo hi w w2) := (Chg.of_below (by go_grown)).trans hc
  clear ho hc HI
  rw [HQ.out]
  go_wp2_with fail
  go_ret
  exact ⟨rfl, HO.out, HC.out⟩
end Go.Proofs.Ytnmmnikoogjhoaa
