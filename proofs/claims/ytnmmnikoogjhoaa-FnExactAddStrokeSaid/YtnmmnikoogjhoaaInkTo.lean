/-
  Inks of the law become inks of the program: made, sized, compared.
-/
import Derived.Test.YtnmmnikoogjhoaaInk
import Derived.Test.YtnmmnikoogjhoaaPtsEq
namespace Go.Proofs.Ytnmmnikoogjhoaa
set_option linter.unusedSimpArgs false
set_option linter.unusedVariables false
set_option maxRecDepth 20000
open Go.RowKit
open Go.ChangeShapes Go.WideShapes Go.Deep Go.Joins

/-- the points of the first k strokes -/
def sumL (S : List St) : Nat → Nat
  | 0 => 0
  | k + 1 => sumL S k + (S.getD k default).l.length
theorem sumL_next {S : List St} {k : Nat} (h : k < S.length) : sumL S (k + 1) = sumL S k + S[k].l.length := by rw [sumL]; simp [List.getD_eq_getElem?_getD, List.getElem?_eq_getElem h]
theorem sumL_mono (S : List St) {j k : Nat} (h : j ≤ k) : sumL S j ≤ sumL S k := by
  induction k with
  | zero => obtain rfl : j = 0 := by omega
            exact Nat.le_refl _
  | succ k ih =>
    rcases Nat.lt_or_ge k j with h1 | h1
    · obtain rfl : j = k + 1 := by omega
      exact Nat.le_refl _
    · have := ih h1
      rw [sumL]; omega
theorem sumL_at {S : List St} {k : Nat} (h : k < S.length) : S[k].l.length ≤ sumL S S.length := by
  have h1 := sumL_mono S (show k + 1 ≤ S.length from h)
  rw [sumL_next h] at h1
  omega
/-- it fits -/
def fitK (S : List St) (left : Nat) : Prop := S.length + sumL S S.length ≤ left
theorem ptsOf_len (S : List St) : (ptsOf S).length = S.length := by simp [ptsOf]
theorem ptsOf_at {S T : List St} (h : ptsOf S = ptsOf T) {k : Nat} (hk : k < S.length) (hk2 : k < T.length) : T[k].l = S[k].l := by
  have h1 : (ptsOf S)[k]? = (ptsOf T)[k]? := by rw [h]
  simp only [ptsOf, List.getElem?_map, List.getElem?_eq_getElem hk, List.getElem?_eq_getElem hk2, Option.map_some, Option.some.injEq] at h1
  exact h1.symm

set_option maxHeartbeats 4000000 in
theorem szStrokeS_any (A : Option Addr) (n c : Nat) (S : List St) (left : Nat) (R : Int) (w : World) (h : InkRd w A n S) (hn : n ≤ 9223372036854775807) (hs : ∀ s ∈ S, s.l.length ≤ 9223372036854775807) (hl : left ≤ 1048576)
    (hy : n + sumL S n ≤ left → R = ((left - n - sumL S n : Nat) : Int)) (hno : ¬ n + sumL S n ≤ left → R = -1) :
    Calls Try.prog 40 #[.slice A n c, .int .i64 (left : Int)] w fun e w' => e = .returned (.int .i64 R) ∧ Below w.heap.size w w' := by
  have HA := Lib.hid h
  have LA := Lib.hid h.len
  have HY := Lib.hid hy
  have HN := Lib.hid hno
  clear h hy hno
  by_cases h0 : n ≤ left
  · go_enter Try.func40, Try.ntmps40
    go_wp2_with fail
    go_loopw [1, 5] (fun lv i wr => ∃ k q : Nat, k ≤ n ∧ i = .int .i64 k ∧ lv = .int .i64 (q : Int) ∧ q ≤ 1048576 ∧ Hid (n + sumL S k + q = left) ∧ Below w.heap.size w wr) (fun _ i _ => n - (intOf i).toNat)
    case atStart => exact ⟨0, left - n, Nat.zero_le _, rfl, by go_num, by omega, by rw [Hid, sumL]; omega, Below.refl _ _⟩
    case round =>
      obtain ⟨k, q, hk, rfl, rfl, hq, hsum, hW⟩ := hrel
      by_cases hlt : k < n
      · have ka : k < S.length := by have := LA.out; omega
        obtain ⟨b1, o1, rfl, l1, c1, hp⟩ := (HA.out.below hW).at ka
        have hsl := hs _ (List.getElem_mem ka)
        have hnx := Lib.hid (sumL_next ka)
        clear hp
        by_cases hf : S[k].l.length ≤ q
        · go_wp2_with fail
          refine (szStroke_ok S[k].A S[k].l.length S[k].c q _ hsl hq hf).mono ?_
          rintro e w2 ⟨rfl, hb⟩
          have hW2 := Below.next hW hb
          go_wp2_with fail
          go_roundw
          case rel => exact ⟨k + 1, q - S[k].l.length, by omega, by go_num, rfl, by omega, by rw [Hid, hnx.out]; have := hsum.out; omega, hW2⟩
          case measure => simp [intOf]; omega
        · go_wp2_with fail
          refine (szStroke_no S[k].A S[k].l.length S[k].c q _ hsl hq hf).mono ?_
          rintro e w2 ⟨rfl, hb⟩
          have hW2 := Below.next hW hb
          go_wp2_with fail
          go_ret
          refine ⟨?_, hW2⟩
          have hm := sumL_mono S (show k + 1 ≤ n by omega)
          have := hnx.out
          have := hsum.out
          rw [HN.out (by omega)]; rfl
      · obtain rfl : k = n := by omega
        go_wp2_with fail
        go_ret
        have := hsum.out
        exact ⟨by rw [HY.out (by omega)]; exact ret_int (by omega), hW⟩
  · go_enter Try.func40, Try.ntmps40
    go_wp2_with fail
    go_ret
    exact ⟨by rw [HN.out (by omega)]; rfl, Below.refl _ _⟩
theorem szInk_ok (A : Option Addr) (n c : Nat) (S : List St) (left : Nat) (w : World) (h : InkRd w A n S) (hn : n ≤ 9223372036854775807) (hs : ∀ s ∈ S, s.l.length ≤ 9223372036854775807) (hl : left ≤ 1048576) (hf : n + sumL S n ≤ left) :
    Calls Try.prog 11 #[.agg #[.slice A n c], .int .i64 (left : Int)] w fun e w' => e = .returned (.int .i64 ((left - n - sumL S n : Nat) : Int)) ∧ Below w.heap.size w w' := by
  have HA := Lib.hid (h.alloc (.cells #[.slice A n c] 24))
  clear h
  obtain ⟨r, hr⟩ : ∃ r, left - n - sumL S n = r := ⟨_, rfl⟩
  rw [hr]
  have HR := Lib.hid hr
  clear hr
  go_enter Try.func11, Try.ntmps11
  go_wp2_with fail
  refine (szStrokeS_any A n c S left (r : Int) _ HA.out hn hs hl (fun _ => by rw [← HR.out]) (fun h => absurd hf h)).mono ?_
  rintro e w2 ⟨rfl, hb⟩
  have hB : Below w.heap.size w w2 := Below.next (by go_grown) hb
  clear hb HA
  go_wp2_with fail
  go_ret
  exact ⟨rfl, hB⟩
theorem szInk_no (A : Option Addr) (n c : Nat) (S : List St) (left : Nat) (w : World) (h : InkRd w A n S) (hn : n ≤ 9223372036854775807) (hs : ∀ s ∈ S, s.l.length ≤ 9223372036854775807) (hl : left ≤ 1048576) (hf : ¬ n + sumL S n ≤ left) :
    Calls Try.prog 11 #[.agg #[.slice A n c], .int .i64 (left : Int)] w fun e w' => e = .returned (.int .i64 (-1)) ∧ Below w.heap.size w w' := by
  have HA := Lib.hid (h.alloc (.cells #[.slice A n c] 24))
  have HF := Lib.hid hf
  clear h hf
  go_enter Try.func11, Try.ntmps11
  go_wp2_with fail
  refine (szStrokeS_any A n c S left (-1) _ HA.out hn hs hl (fun h => absurd h HF.out) (fun _ => rfl)).mono ?_
  rintro e w2 ⟨rfl, hb⟩
  have hB : Below w.heap.size w w2 := Below.next (by go_grown) hb
  clear hb HA
  go_wp2_with fail
  go_ret
  exact ⟨rfl, hB⟩

set_option maxHeartbeats 4000000 in
theorem eqStrokeS_same (A B : Option Addr) (n c d : Nat) (S T : List St) (w : World) (ha : InkRd w A n S) (hb : InkRd w B n T) (hp : ptsOf S = ptsOf T) (hs : ∀ s ∈ S, s.l.length ≤ 1048576) (hn : n ≤ 1048576) :
    Calls Try.prog 46 #[.slice A n c, .slice B n d] w fun e w' => e = .returned (.bool true) ∧ Below w.heap.size w w' := by
  have HA := Lib.hid ha
  have HD := Lib.hid hb
  have LA := Lib.hid ha.len
  have LD := Lib.hid hb.len
  have HP := Lib.hid hp
  clear ha hb hp
  go_enter Try.func46, Try.ntmps46
  go_wp2_with fail
  go_loopw [5] (fun i wr => ∃ k : Nat, k ≤ n ∧ i = .int .i64 k ∧ Below w.heap.size w wr) (fun i _ => n - (intOf i).toNat)
  case atStart => exact ⟨0, Nat.zero_le _, rfl, Below.refl _ _⟩
  case round =>
    obtain ⟨k, hk, rfl, hW⟩ := hrel
    have hWs := hW.size
    by_cases hlt : k < n
    · have ka : k < S.length := by have := LA.out; omega
      have kb : k < T.length := by have := LD.out; omega
      obtain ⟨b1, o1, rfl, l1, c1, p1⟩ := (HA.out.below hW).at ka
      obtain ⟨b2, o2, rfl, l2, c2, p2⟩ := (HD.out.below hW).at kb
      have hsl := hs _ (List.getElem_mem ka)
      rw [ptsOf_at HP.out ka kb] at c2 p2
      have P1 := Lib.hid p1
      have P2 := Lib.hid p2
      clear p1 p2
      go_wp2_with fail
      refine wp_region_held_drew (S := (fun w' => (∀ kb ko, kb < wr.heap.size → w'.cell? ⟨kb, ko, none⟩ = wr.cell? ⟨kb, ko, none⟩) ∧ wr.heap.size ≤ w'.heap.size ∧ Below wr.heap.size wr w')) (by kernel_rfl) ?_ (fun hHeld => ?_)
      · (try dsimp only); (first | exact SB.mk hkB | exact SB.mk ((Below.refl _ _).drew) | (go_split_ands; refine SB.mk (Below.drew ?_); assumption) | (refine SB.mk ?_; go_grown; done) | (go_split_ands; refine SB.mk ?_; go_grown; done))
      first | (refine take_on (i := 0) (v := ?_) rfl (by kernel_rfl) (by kernel_rfl) (by kernel_rfl) (fun _ _ _ h => h) rfl ?_ (by assumption) ?_; rotate_left; · (intro w' hSw; (try dsimp only at hSw); go_simp; (try with_reducible rfl))) | (refine take_off (i := 0) rfl (by kernel_rfl) (by kernel_rfl) (by kernel_rfl) (fun _ _ _ h => h) rfl (by assumption) ?_)
      (try simp only [Act.put, List.setIfInBounds_toArray, List.set_cons_zero, List.set_cons_succ])
      first | (refine take_on (i := 1) (v := ?_) rfl (by kernel_rfl) (by kernel_rfl) (by kernel_rfl) (fun _ _ _ h => h) rfl ?_ (by assumption) ?_; rotate_left; · (intro w' hSw; (try dsimp only at hSw); go_simp; (try with_reducible rfl))) | (refine take_off (i := 1) rfl (by kernel_rfl) (by kernel_rfl) (by kernel_rfl) (fun _ _ _ h => h) rfl (by assumption) ?_)
      (try simp only [Act.put, List.setIfInBounds_toArray, List.set_cons_zero, List.set_cons_succ])
      first | (refine take_on (i := 2) (v := ?_) rfl (by kernel_rfl) (by kernel_rfl) (by kernel_rfl) (fun _ _ _ h => h) rfl ?_ (by assumption) ?_; rotate_left; · (intro w' hSw; (try dsimp only at hSw); go_simp; (try with_reducible rfl))) | (refine take_off (i := 2) rfl (by kernel_rfl) (by kernel_rfl) (by kernel_rfl) (fun _ _ _ h => h) rfl (by assumption) ?_)
      (try simp only [Act.put, List.setIfInBounds_toArray, List.set_cons_zero, List.set_cons_succ])
      first | (refine take_on (i := 3) (v := ?_) rfl (by kernel_rfl) (by kernel_rfl) (by kernel_rfl) (fun _ _ _ h => h) rfl ?_ (by assumption) ?_; rotate_left; · (intro w' hSw; (try dsimp only at hSw); go_simp; (try with_reducible rfl))) | (refine take_off (i := 3) rfl (by kernel_rfl) (by kernel_rfl) (by kernel_rfl) (fun _ _ _ h => h) rfl (by assumption) ?_)
      (try simp only [Act.put, List.setIfInBounds_toArray, List.set_cons_zero, List.set_cons_succ])
      first | (refine take_on (i := 4) (v := ?_) rfl (by kernel_rfl) (by kernel_rfl) (by kernel_rfl) (fun _ _ _ h => h) rfl ?_ (by assumption) ?_; rotate_left; · (intro w' hSw; (try dsimp only at hSw); go_simp; (try with_reducible rfl))) | (refine take_off (i := 4) rfl (by kernel_rfl) (by kernel_rfl) (by kernel_rfl) (fun _ _ _ h => h) rfl (by assumption) ?_)
      (try simp only [Act.put, List.setIfInBounds_toArray, List.set_cons_zero, List.set_cons_succ])
      first | (refine take_on (i := 5) (v := ?_) rfl (by kernel_rfl) (by kernel_rfl) (by kernel_rfl) (fun _ _ _ h => h) rfl ?_ (by assumption) ?_; rotate_left; · (intro w' hSw; (try dsimp only at hSw); go_simp; (try with_reducible rfl))) | (refine take_off (i := 5) rfl (by kernel_rfl) (by kernel_rfl) (by kernel_rfl) (fun _ _ _ h => h) rfl (by assumption) ?_)
      (try simp only [Act.put, List.setIfInBounds_toArray, List.set_cons_zero, List.set_cons_succ])
      first | (refine take_on (i := 6) (v := ?_) rfl (by kernel_rfl) (by kernel_rfl) (by kernel_rfl) (fun _ _ _ h => h) rfl ?_ (by assumption) ?_; rotate_left; · (intro w' hSw; (try dsimp only at hSw); go_simp; (try with_reducible rfl))) | (refine take_off (i := 6) rfl (by kernel_rfl) (by kernel_rfl) (by kernel_rfl) (fun _ _ _ h => h) rfl (by assumption) ?_)
      (try simp only [Act.put, List.setIfInBounds_toArray, List.set_cons_zero, List.set_cons_succ])
      first | (refine take_on (i := 7) (v := ?_) rfl (by kernel_rfl) (by kernel_rfl) (by kernel_rfl) (fun _ _ _ h => h) rfl ?_ (by assumption) ?_; rotate_left; · (intro w' hSw; (try dsimp only at hSw); go_simp; (try with_reducible rfl))) | (refine take_off (i := 7) rfl (by kernel_rfl) (by kernel_rfl) (by kernel_rfl) (fun _ _ _ h => h) rfl (by assumption) ?_)
      (try simp only [Act.put, List.setIfInBounds_toArray, List.set_cons_zero, List.set_cons_succ])
      refine wpAnyH_ready (rs := [8]) (by kernel_rfl) (by simp) ?_
      refine AllReadyH.cons rfl (fun K hK => ?_) AllReadyH.nil
      rw [if_pos (by rfl)]
      go_simp
      first | (go_at_call 33; (with_reducible refine (eqStroke_same S[k].A T[k].A S[k].l.length S[k].c T[k].c S[k].l _ (by first | exact P1.out | exact P1.out.drew) (by first | exact P2.out | exact P2.out.drew) rfl hsl).mono ?_); rintro e w' ⟨rfl, hb⟩; obtain ⟨_, hks, hkB⟩ := SB.next (by assumption) hb; obtain ⟨hkc, hkf⟩ := bcell hb; have hkz := hb.size; (try simp only [World.size_alloc, World.size_drew] at hkz); (first | (have hkt := Nat.lt_of_succ_le hkz) | (have hkt := Nat.lt_of_lt_of_le (by assumption) hkz) | skip); clear hb)
      refine hK.out _ _ ?_ (fun hHeld2 => ?_)
      · (try dsimp only); (first | exact SB.mk hkB | exact SB.mk ((Below.refl _ _).drew) | (go_split_ands; refine SB.mk (Below.drew ?_); assumption) | (refine SB.mk ?_; go_grown; done) | (go_split_ands; refine SB.mk ?_; go_grown; done))
      clear hK K hHeld; have hHeld := hHeld2; clear hHeld2; (try simp only [Act.put, List.setIfInBounds_toArray, List.set_cons_zero, List.set_cons_succ])
      first | (refine take_on (i := 9) (v := ?_) rfl (by kernel_rfl) (by kernel_rfl) (by kernel_rfl) (fun _ _ _ h => h) rfl ?_ (by assumption) ?_; rotate_left; · (intro w' hSw; (try dsimp only at hSw); go_simp; (try with_reducible rfl))) | (refine take_off (i := 9) rfl (by kernel_rfl) (by kernel_rfl) (by kernel_rfl) (fun _ _ _ h => h) rfl (by assumption) ?_)
      (try simp only [Act.put, List.setIfInBounds_toArray, List.set_cons_zero, List.set_cons_succ])
      refine wpAnyH_done (by kernel_rfl) ?_ _
      go_split_ands
      go_wp2_with fail
      go_roundw
      case rel => exact ⟨k + 1, by omega, by go_num, Below.next hW (by assumption)⟩
      case measure => simp [intOf]; omega
    · go_wp2_with fail
      go_ret
      exact ⟨rfl, hW⟩
theorem eqInk_same (A B : Option Addr) (n c d : Nat) (S T : List St) (w : World) (ha : InkRd w A n S) (hb : InkRd w B n T) (hp : ptsOf S = ptsOf T) (hs : ∀ s ∈ S, s.l.length ≤ 1048576) (hn : n ≤ 1048576) :
    Calls Try.prog 15 #[.agg #[.slice A n c], .agg #[.slice B n d]] w fun e w' => e = .returned (.bool true) ∧ Below w.heap.size w w' := by
  have HA := Lib.hid ((ha.alloc (.cells #[.slice A n c] 29)).alloc (.cells #[.slice B n d] 29))
  have HD := Lib.hid ((hb.alloc (.cells #[.slice A n c] 29)).alloc (.cells #[.slice B n d] 29))
  have HP := Lib.hid hp
  clear ha hb hp
  go_enter Try.func15, Try.ntmps15
  go_wp2_with fail
  refine (eqStrokeS_same A B n c d S T _ HA.out HD.out HP.out hs hn).mono ?_
  rintro e w2 ⟨rfl, hb2⟩
  have hB : Below w.heap.size w w2 := Below.next (by go_grown) hb2
  clear hb2 HA HD
  go_wp2_with fail
  go_ret
  exact ⟨rfl, hB⟩

set_option maxHeartbeats 4000000 in
theorem toStrokeS_any (A : Option Addr) (n c : Nat) (S : List St) (w : World) (h : InkRd w A n S) (hs : ∀ s ∈ S, s.l.length ≤ 1048576) (hn : n ≤ 1048576) :
    Calls Try.prog 42 #[.slice A n c] w fun e w' => ∃ g T, e = .returned (.slice (some ⟨g, 0, none⟩) n n) ∧ ptsOf T = ptsOf S ∧ InkOwn w' w.heap.size w'.heap.size (.slice (some ⟨g, 0, none⟩) n n) T ∧ Below w.heap.size w w' := by
  obtain ⟨i0, hi0, hz0, hz1, hz2⟩ := info_parts stroke_info
  have hmk := make_rows (P := Try.prog) 27 52 i0 _ Try.underlying27 hi0 hz0 .i64 .i64 n (by rw [hz2]; omega) (by omega)
  rw [hz1] at hmk
  have HA := Lib.hid h
  have LA := Lib.hid h.len
  clear h
  go_enter Try.func42, Try.ntmps42
  go_wp2_with fail
  go_loopw [4] (fun i wr => ∃ (k : Nat) (C : Array Value) (T : List St), k ≤ n ∧ i = .int .i64 k ∧ Hid (T.length = k) ∧ Hid (ptsOf T = (ptsOf S).take k) ∧ Hid (C.size = n) ∧ Hid (Filled skC C T k) ∧ Bk wr w.heap.size 52 C ∧ Hid (Inner wr (w.heap.size + 1) wr.heap.size T) ∧ Below w.heap.size w wr) (fun i _ => n - (intOf i).toNat)
  case atStart => exact ⟨0, _, [], Nat.zero_le _, rfl, rfl, by simp [Hid, ptsOf], size_madeCells _ _, Filled.zero _ _ _, heap_alloc_new w _, Inner.nil _ _ _, by go_grown⟩
  case round =>
    obtain ⟨k, C, T, hk, rfl, hT, hpt, hC, hfill, hbk, hin, hW⟩ := hrel
    by_cases hlt : k < n
    · have ka : k < S.length := by have := LA.out; omega
      obtain ⟨b1, o1, rfl, l1, c1, p1⟩ := (HA.out.below hW).at ka
      have hsl := hs _ (List.getElem_mem ka)
      have P1 := Lib.hid p1
      clear p1
      go_wp2_with fail
      refine (toStroke_any S[k].A S[k].l.length S[k].c S[k].l _ P1.out rfl hsl).mono ?_
      rintro e w2 ⟨g, rfl, hg, hk2, hb2⟩
      have hbk2 := hbk.below hb2 hbk.lt
      have d1 := hbk2.cell k
      rw [Array.getElem?_eq_getElem (by have := hC.out; omega)] at d1
      have f1 := hbk2.frozen k
      have hgl := hk2.lt
      have hbl := hbk.lt
      have hown : Own ptC 72 3 w2 (w.heap.size + 1) (.slice (some ⟨g, 0, none⟩) S[k].l.length S[k].l.length) S[k].l := Own.of_bk hk2 ptC_len (by unfold maxLen; omega) (by omega)
      have HO := Lib.hid hown
      have hin2 := Lib.hid (hin.out.next hb2)
      clear hown hk2
      go_wp2_with fail
      go_roundw
      case rel =>
        have hne : ∀ j : Nat, w.heap.size + 1 ≤ j → (w2.setCell ⟨w.heap.size, k, none⟩ (.slice (some ⟨g, 0, none⟩) S[k].l.length S[k].l.length)).heap[j]? = w2.heap[j]? := fun j hj => Below.heap_setCell _ _ _ _ (by simp only [ne_eq]; omega)
        have hsz : (w2.setCell ⟨w.heap.size, k, none⟩ (.slice (some ⟨g, 0, none⟩) S[k].l.length S[k].l.length)).heap.size = w2.heap.size := by simp [World.setCell]
        refine ⟨k + 1, _, T ++ [⟨some ⟨g, 0, none⟩, S[k].l.length, S[k].l⟩], by omega, by go_num, by simp [Hid, hT.out], ?_, by simpa [Hid] using hC.out, ?_, hbk2.put k _, ?_, by have := hW.trans (hb2.mono (Nat.le_of_lt hbk.lt)); go_grown⟩
        · rw [Hid, List.take_succ_eq_append_getElem (by rw [ptsOf_len]; exact ka), ← hpt.out]
          simp [ptsOf]
        · refine Filled.set1 (fun _ => rfl) ?_ (by simp [hT.out]) (by simp [hT.out]; have := hC.out; omega) (by rw [List.getElem_append_right (by rw [hT.out]; exact Nat.le_refl _)]; simp [skC, St.val])
          have := hfill.out
          unfold Filled at this ⊢
          rw [List.take_append_of_le_length (by rw [hT.out]; exact Nat.le_refl _)]
          exact this
        · rw [Hid, hsz]
          refine Inner.push ((hin2.out.keep fun j hj _ _ => hne j hj).mono (Nat.le_refl _)) (HO.out.of_block fun j hj => hne j (HO.out.lt j hj).1) ?_ ?_ hb2.size
          · intro j hj
            have : g = j := by simpa [St.val, Value.ownBlock] using hj
            omega
          · intro j hj
            have : g = j := by simpa [St.val, Value.ownBlock] using hj
            omega
      case measure => simp [intOf]; omega
    · obtain rfl : k = n := by omega
      go_wp2_with fail
      go_ret
      have eC : C = (rowOf skC T).toArray := hfill.out.done skC_len (by rw [hT.out]; exact Nat.le_refl _) (by rw [hT.out, Nat.mul_one]; exact hC.out)
      subst eC
      have hrow := Own.of_bk hbk (fun _ => rfl) (by rw [hT.out]; unfold maxLen; omega) (Nat.le_refl _)
      rw [hT.out] at hrow
      refine ⟨w.heap.size, T, rfl, by rw [hpt.out, List.take_of_length_le (by rw [ptsOf_len]; have := LA.out; omega)], ⟨hrow, fun j hj => ?_, hin.out.low (by omega), fun s hs2 j hj he => ?_⟩, hW⟩
      · have : w.heap.size = j := by simpa [Value.ownBlock] using hj
        have := hbk.lt
        omega
      · have h1 : w.heap.size = j := by simpa [Value.ownBlock] using he
        have h2 := ((hin.out.own s hs2).lt j hj).1
        omega
set_option maxHeartbeats 4000000 in
theorem toInk_any (A : Option Addr) (n c : Nat) (S : List St) (w : World) (h : InkRd w A n S) (hs : ∀ s ∈ S, s.l.length ≤ 1048576) (hn : n ≤ 1048576) :
    Calls Try.prog 13 #[.agg #[.slice A n c]] w fun e w' => ∃ g T, e = .returned (.agg #[.slice (some ⟨g, 0, none⟩) n n]) ∧ ptsOf T = ptsOf S ∧ InkOwn w' w.heap.size w'.heap.size (.slice (some ⟨g, 0, none⟩) n n) T ∧ Below w.heap.size w w' := by
  have HA := Lib.hid h
  clear h
  go_enter Try.func13, Try.ntmps13
  go_wp2_with fail
  refine (toStrokeS_any A n c S _ (by first | exact HA.out | exact HA.out.alloc _ | exact (HA.out.alloc _).alloc _ | exact ((HA.out.alloc _).alloc _).alloc _) hs hn).mono ?_
  rintro e w2 ⟨g, T, rfl, hp, ho, hb⟩
  have HP := Lib.hid hp
  have HO := Lib.hid ho
  clear hp ho
  obtain ⟨hc, hf⟩ := bcell hb
  have hz := hb.size
  simp only [World.size_alloc] at hz
  have hy0 : w.heap.size < w2.heap.size := by omega
  have hy1 : w.heap.size + 1 < w2.heap.size := by omega
  have hy2 : w.heap.size + 1 + 1 < w2.heap.size := by omega
  have hB : Below w.heap.size w w2 := Below.next (by go_grown) hb
  have c1 : w2.cell? ⟨w.heap.size + 1, 0, none⟩ = some (.slice none 0 0) := (hc _ _ (by simp)).trans (by go_simp)
  have c2 : w2.cell? ⟨w.heap.size + 1 + 1, 0, none⟩ = some (.slice none 0 0) := (hc _ _ (by simp)).trans (by go_simp)
  have f1 : w2.frozen? ⟨w.heap.size + 1, 0, none⟩ = false := (hf _ _ (by simp)).trans (by go_simp)
  have f2 : w2.frozen? ⟨w.heap.size + 1 + 1, 0, none⟩ = false := (hf _ _ (by simp)).trans (by go_simp)
  clear hc hf hb
  go_wp2_with fail
  refine bodyPost_ret (by simp [results, Try.results13, go_sem, *]; try rfl) rfl ?_
  refine ⟨g, T, rfl, HP.out, ?_, by go_grown⟩
  have e1 : ∀ (v1 v2 : Value), ((w2.setCell ⟨w.heap.size + 1 + 1, 0, none⟩ v1).setCell ⟨w.heap.size + 1, 0, none⟩ v2).heap.size = w2.heap.size := fun v1 v2 => by simp [World.setCell]
  have h1 := HO.out.keep (w' := (w2.setCell ⟨w.heap.size + 1 + 1, 0, none⟩ (.slice (some ⟨g, 0, none⟩) n n)).setCell ⟨w.heap.size + 1, 0, none⟩ (.slice (some ⟨g, 0, none⟩) n n)) (fun j hj _ _ => by
    simp only [World.size_alloc] at hj
    rw [Below.heap_setCell _ _ _ _ (by simp only [ne_eq]; omega), Below.heap_setCell _ _ _ _ (by simp only [ne_eq]; omega)])
  rw [e1]
  exact h1.low (by simp only [World.size_alloc]; omega)
end Go.Proofs.Ytnmmnikoogjhoaa
