/-
  The program's test of a file. The program's test of a file, its parts: a channel, the rows of a stroke, a note. The program's test of a file. The reference's test of a file, its parts. The reference's test of a file.
-/
import Derived.Test.YtmdmjnhebbhjbaaFileB
import Derived.Test.YtmdmjnhebbhjbaaFilea
namespace Go.Proofs.Ytmdmjnhebbhjbaa
set_option linter.unusedSimpArgs false
set_option linter.unusedVariables false
set_option maxRecDepth 20000
open Go.RowKit
open Go.ChangeShapes Go.WideShapes Go.Deep Go.Joins

theorem iIsName_is {s : ByteArray} {v : Bool} (h : Hid (nameB s.data.toList = v)) (hs : s.size ≤ 1048576) (w : World) :
    Calls Try.prog 25 #[.string s] w fun e w' => e = .returned (.bool v) ∧ Below w.heap.size w w' := by rw [← h.out]; exact iIsName s w hs
theorem within_v {n low high : Int} {b : Bool} (h : Hid (inB n low high = b)) (w : World) :
    Calls Try.prog 63 #[.int .i64 n, .int .i64 low, .int .i64 high] w fun e w' => e = .returned (.bool b) ∧ w = w' := by
  rw [← h.out]; exact within_any n low high w
theorem hasN_any {c : Ch} {s : ByteArray} {b : Nat} {v : Bool} {w : World} (h : w.cell? ⟨b, 0, none⟩ = some (.string s)) (hb : b < w.heap.size) (hv : Hid (hasName s c = v)) :
    Calls Try.prog 65 #[.agg #[.string c.name, .string c.unit, .int .i64 c.low, .int .i64 c.high], .pointer (some ⟨b, 0, none⟩)] w fun e w' => e = .returned (.bool v) ∧ Below w.heap.size w w' := by
  have h1 : (c.name.toList == s.toList) = v := hv.out
  have h2 : (w.alloc (.cells #[.string c.name, .string c.unit, .int .i64 c.low, .int .i64 c.high] 74)).cell? ⟨b, 0, none⟩ = some (.string s) := (Below.cell ((Below.refl w.heap.size w).alloc (Nat.le_refl _) _) (p := ⟨b, 0, none⟩) hb).trans h
  clear h
  go_enter Try.func65, Try.ntmps65
  go_wp2_with fail
  refine bodyPost_ret (by simp [results, Try.results65, go_sem, *]; try rfl) rfl ?_
  exact ⟨rfl, by go_grown⟩
set_option maxHeartbeats 4000000 in
theorem indexFunc_any (A : Option Addr) (n c : Nat) (cs : List Ch) (s : ByteArray) (b : Nat) (z : Int) (w : World) (ha : Rd w A n 4 (rowOf chC cs)) (la : cs.length = n) (hn : n ≤ 1048576) (h : w.cell? ⟨b, 0, none⟩ = some (.string s)) (hb : b < w.heap.size) (hz : Hid (idxZ cs s = z)) :
    Calls Try.prog 64 #[.slice A n c, .func (.func 65) #[] #[.pointer (some ⟨b, 0, none⟩)]] w fun e w' => e = .returned (.int .i64 z) ∧ Below w.heap.size w w' := by
  have HA := Lib.hid ha
  have LA := Lib.hid la
  have HC := Lib.hid h
  clear ha la h
  go_enter Try.func64, Try.ntmps64
  go_wp2_with fail
  go_loopw [8] (fun i wr => ∃ k : Nat, k ≤ n ∧ i = .int .i64 (k : Int) ∧ Hid (k ≤ idxC cs s) ∧ Below w.heap.size w wr) (fun i _ => n - (intOf i).toNat)
  case atStart => exact ⟨0, Nat.zero_le _, rfl, Nat.zero_le _, Below.refl _ _⟩
  case round =>
    obtain ⟨k, hk, rfl, hlow, hW⟩ := hrel
    have hWs := hW.size
    by_cases hlt : k < n
    · have ka : k < cs.length := by have := LA.out; omega
      obtain ⟨b1, o1, rfl, l1, c0⟩ := (HA.out.below hW).at chC_len LA.out ka
      have c1 : wr.cell? ⟨b1, o1 + k * 4, none⟩ = some (.string cs[k].name) := c0 0 _ rfl
      have c2 : wr.cell? ⟨b1, o1 + k * 4 + 1, none⟩ = some (.string cs[k].unit) := c0 1 _ rfl
      have c3 : wr.cell? ⟨b1, o1 + k * 4 + 2, none⟩ = some (.int .i64 cs[k].low) := c0 2 _ rfl
      have c4 : wr.cell? ⟨b1, o1 + k * 4 + 3, none⟩ = some (.int .i64 cs[k].high) := c0 3 _ rfl
      have HB : Hid (wr.cell? ⟨b, 0, none⟩ = some (.string s)) := (hW.cell (p := ⟨b, 0, none⟩) hb).trans HC.out
      have hbr : b < wr.heap.size := by omega
      have hk0 : (0 : Int) ≤ (k : Int) := by omega
      have hkn : (k : Int) < (n : Int) := by omega
      clear c0
      cases hv : hasName s cs[k]
      · have HN : Hid (k + 1 ≤ idxC cs s) := idxC_step hlow.out ka hv
        have HV := Lib.hid hv
        clear hv
        go_wp2_with fail
        refine (hasN_any HB.out hbr HV).mono ?_
        rintro e w2 ⟨rfl, hb2⟩
        have hW2 := Below.next hW hb2
        clear hb2
        go_wp2_with fail
        go_roundw
        case rel => exact ⟨k + 1, by omega, by go_num, HN, hW2⟩
        case measure => simp [intOf]; omega
      · have HN : Hid (idxZ cs s = (k : Int)) := idxZ_hit hlow.out ka hv
        have HV := Lib.hid hv
        clear hv
        go_wp2_with fail
        refine (hasN_any HB.out hbr HV).mono ?_
        rintro e w2 ⟨rfl, hb2⟩
        have hW2 := Below.next hW hb2
        clear hb2
        go_wp2_with fail
        go_ret
        exact ⟨ret_int (by rw [← hz.out, HN.out]), hW2⟩
    · go_wp2_with fail
      go_ret
      refine ⟨ret_int ?_, hW⟩
      rw [← hz.out, idxZ_none]
      have := hlow.out
      have := LA.out
      omega
theorem indexOf_any (A : Option Addr) (n c : Nat) (cs : List Ch) (s : ByteArray) (z : Int) (w : World) (ha : Rd w A n 4 (rowOf chC cs)) (la : cs.length = n) (hn : n ≤ 1048576) (hz : Hid (idxZ cs s = z)) :
    Calls Try.prog 48 #[.slice A n c, .string s] w fun e w' => e = .returned (.int .i64 z) ∧ Below w.heap.size w w' := by
  have HA := Lib.hid (ha.alloc (.cells #[.string s] 9))
  clear ha
  go_enter Try.func48, Try.ntmps48
  go_wp2_with fail
  refine (indexFunc_any A n c cs s w.heap.size z _ HA.out la hn (by go_simp) (by simp) hz).mono ?_
  rintro e w2 ⟨rfl, hb⟩
  have hB : Below w.heap.size w w2 := Below.next (by go_grown) hb
  clear hb HA
  go_wp2_with fail
  go_ret
  exact ⟨rfl, hB⟩
end Go.Proofs.Ytmdmjnhebbhjbaa
namespace Go.Proofs.Ytmdmjnhebbhjbaa
set_option linter.unusedSimpArgs false
set_option linter.unusedVariables false
set_option maxRecDepth 20000
open Go.RowKit
open Go.ChangeShapes Go.WideShapes Go.Deep Go.Joins

set_option maxHeartbeats 4000000 in
theorem validCh_any (c : Ch) (v : Bool) (w : World) (hs : c.name.size ≤ 1048576 ∧ c.unit.size ≤ 1048576) (hv : Hid (chB c = v)) :
    Calls Try.prog 47 #[.agg #[.string c.name, .string c.unit, .int .i64 c.low, .int .i64 c.high]] w fun e w' => e = .returned (.bool v) ∧ Below w.heap.size w w' := by
  obtain ⟨s1, s2⟩ := hs
  have HK : Hid (Bk (w.alloc (.cells #[.string c.name, .string c.unit, .int .i64 c.low, .int .i64 c.high] 74)) w.heap.size 74 #[.string c.name, .string c.unit, .int .i64 c.low, .int .i64 c.high]) := Bk.new w _ _
  cases h1 : nameB c.name.data.toList
  · have H1 := Lib.hid h1
    clear h1
    go_enter Try.func47, Try.ntmps47
    go_wp2_with fail
    refine (iIsName_is H1 s1 _).mono ?_
    rintro e w2 ⟨rfl, hb2⟩
    have K2 := HK.out.next hb2
    have B2 : Below w.heap.size w w2 := Below.next (by go_grown) hb2
    clear hb2
    have c0 : w2.cell? ⟨w.heap.size, 0, none⟩ = some (.string c.name) := K2.cell 0
    have c1 : w2.cell? ⟨w.heap.size, 1, none⟩ = some (.string c.unit) := K2.cell 1
    have c2 : w2.cell? ⟨w.heap.size, 2, none⟩ = some (.int .i64 c.low) := K2.cell 2
    have c3 : w2.cell? ⟨w.heap.size, 3, none⟩ = some (.int .i64 c.high) := K2.cell 3
    have HK2 := Lib.hid K2
    clear K2
    go_wp2_with fail
    go_ret
    exact ⟨ret_bool (by rw [← hv.out]; unfold chB; rw [H1.out]; rfl), B2⟩
  · have H1 := Lib.hid h1
    clear h1
    cases h2 : nameB c.unit.data.toList
    · have H2 := Lib.hid h2
      clear h2
      go_enter Try.func47, Try.ntmps47
      go_wp2_with fail
      refine (iIsName_is H1 s1 _).mono ?_
      rintro e w2 ⟨rfl, hb2⟩
      have K2 := HK.out.next hb2
      have B2 : Below w.heap.size w w2 := Below.next (by go_grown) hb2
      clear hb2
      have c0 : w2.cell? ⟨w.heap.size, 0, none⟩ = some (.string c.name) := K2.cell 0
      have c1 : w2.cell? ⟨w.heap.size, 1, none⟩ = some (.string c.unit) := K2.cell 1
      have c2 : w2.cell? ⟨w.heap.size, 2, none⟩ = some (.int .i64 c.low) := K2.cell 2
      have c3 : w2.cell? ⟨w.heap.size, 3, none⟩ = some (.int .i64 c.high) := K2.cell 3
      have HK2 := Lib.hid K2
      clear K2
      go_wp2_with fail
      clear c0 c1 c2 c3
      refine (iIsName_is H2 s2 _).mono ?_
      rintro e w3 ⟨rfl, hb3⟩
      have K3 := HK2.out.next hb3
      have B3 : Below w.heap.size w w3 := Below.next B2 hb3
      clear hb3
      have c0 : w3.cell? ⟨w.heap.size, 0, none⟩ = some (.string c.name) := K3.cell 0
      have c1 : w3.cell? ⟨w.heap.size, 1, none⟩ = some (.string c.unit) := K3.cell 1
      have c2 : w3.cell? ⟨w.heap.size, 2, none⟩ = some (.int .i64 c.low) := K3.cell 2
      have c3 : w3.cell? ⟨w.heap.size, 3, none⟩ = some (.int .i64 c.high) := K3.cell 3
      clear K3
      go_wp2_with (fail)
      go_ret
      exact ⟨ret_bool (by rw [← hv.out]; unfold chB; rw [H1.out, H2.out]; rfl), B3⟩
    · have H2 := Lib.hid h2
      clear h2
      cases h3 : inB c.low (-1000000000) 1000000000
      · have H3 := Lib.hid h3
        clear h3
        go_enter Try.func47, Try.ntmps47
        go_wp2_with fail
        refine (iIsName_is H1 s1 _).mono ?_
        rintro e w2 ⟨rfl, hb2⟩
        have K2 := HK.out.next hb2
        have B2 : Below w.heap.size w w2 := Below.next (by go_grown) hb2
        clear hb2
        have c0 : w2.cell? ⟨w.heap.size, 0, none⟩ = some (.string c.name) := K2.cell 0
        have c1 : w2.cell? ⟨w.heap.size, 1, none⟩ = some (.string c.unit) := K2.cell 1
        have c2 : w2.cell? ⟨w.heap.size, 2, none⟩ = some (.int .i64 c.low) := K2.cell 2
        have c3 : w2.cell? ⟨w.heap.size, 3, none⟩ = some (.int .i64 c.high) := K2.cell 3
        have HK2 := Lib.hid K2
        clear K2
        go_wp2_with fail
        clear c0 c1 c2 c3
        refine (iIsName_is H2 s2 _).mono ?_
        rintro e w3 ⟨rfl, hb3⟩
        have K3 := HK2.out.next hb3
        have B3 : Below w.heap.size w w3 := Below.next B2 hb3
        clear hb3
        have c0 : w3.cell? ⟨w.heap.size, 0, none⟩ = some (.string c.name) := K3.cell 0
        have c1 : w3.cell? ⟨w.heap.size, 1, none⟩ = some (.string c.unit) := K3.cell 1
        have c2 : w3.cell? ⟨w.heap.size, 2, none⟩ = some (.int .i64 c.low) := K3.cell 2
        have c3 : w3.cell? ⟨w.heap.size, 3, none⟩ = some (.int .i64 c.high) := K3.cell 3
        clear K3
        go_wp2_with (first | (go_at_call 63; (with_reducible refine (within_v H3 _).mono ?_); rintro e w' ⟨rfl, rfl⟩))
        go_ret
        exact ⟨ret_bool (by rw [← hv.out]; unfold chB; rw [H1.out, H2.out, H3.out]; rfl), B3⟩
      · have H3 := Lib.hid h3
        clear h3
        cases h4 : inB c.high (-1000000000) 1000000000
        · have H4 := Lib.hid h4
          clear h4
          go_enter Try.func47, Try.ntmps47
          go_wp2_with fail
          refine (iIsName_is H1 s1 _).mono ?_
          rintro e w2 ⟨rfl, hb2⟩
          have K2 := HK.out.next hb2
          have B2 : Below w.heap.size w w2 := Below.next (by go_grown) hb2
          clear hb2
          have c0 : w2.cell? ⟨w.heap.size, 0, none⟩ = some (.string c.name) := K2.cell 0
          have c1 : w2.cell? ⟨w.heap.size, 1, none⟩ = some (.string c.unit) := K2.cell 1
          have c2 : w2.cell? ⟨w.heap.size, 2, none⟩ = some (.int .i64 c.low) := K2.cell 2
          have c3 : w2.cell? ⟨w.heap.size, 3, none⟩ = some (.int .i64 c.high) := K2.cell 3
          have HK2 := Lib.hid K2
          clear K2
          go_wp2_with fail
          clear c0 c1 c2 c3
          refine (iIsName_is H2 s2 _).mono ?_
          rintro e w3 ⟨rfl, hb3⟩
          have K3 := HK2.out.next hb3
          have B3 : Below w.heap.size w w3 := Below.next B2 hb3
          clear hb3
          have c0 : w3.cell? ⟨w.heap.size, 0, none⟩ = some (.string c.name) := K3.cell 0
          have c1 : w3.cell? ⟨w.heap.size, 1, none⟩ = some (.string c.unit) := K3.cell 1
          have c2 : w3.cell? ⟨w.heap.size, 2, none⟩ = some (.int .i64 c.low) := K3.cell 2
          have c3 : w3.cell? ⟨w.heap.size, 3, none⟩ = some (.int .i64 c.high) := K3.cell 3
          clear K3
          go_wp2_with (first | (go_at_call 63; (with_reducible refine (within_v H3 _).mono ?_); rintro e w' ⟨rfl, rfl⟩) | (go_at_call 63; (with_reducible refine (within_v H4 _).mono ?_); rintro e w' ⟨rfl, rfl⟩))
          go_ret
          exact ⟨ret_bool (by rw [← hv.out]; unfold chB; rw [H1.out, H2.out, H3.out, H4.out]; rfl), B3⟩
        · have H4 := Lib.hid h4
          clear h4
          cases h5 : decide (c.low < c.high)
          · have H5 := Lib.hid h5
            go_enter Try.func47, Try.ntmps47
            go_wp2_with fail
            refine (iIsName_is H1 s1 _).mono ?_
            rintro e w2 ⟨rfl, hb2⟩
            have K2 := HK.out.next hb2
            have B2 : Below w.heap.size w w2 := Below.next (by go_grown) hb2
            clear hb2
            have c0 : w2.cell? ⟨w.heap.size, 0, none⟩ = some (.string c.name) := K2.cell 0
            have c1 : w2.cell? ⟨w.heap.size, 1, none⟩ = some (.string c.unit) := K2.cell 1
            have c2 : w2.cell? ⟨w.heap.size, 2, none⟩ = some (.int .i64 c.low) := K2.cell 2
            have c3 : w2.cell? ⟨w.heap.size, 3, none⟩ = some (.int .i64 c.high) := K2.cell 3
            have HK2 := Lib.hid K2
            clear K2
            go_wp2_with fail
            clear c0 c1 c2 c3
            refine (iIsName_is H2 s2 _).mono ?_
            rintro e w3 ⟨rfl, hb3⟩
            have K3 := HK2.out.next hb3
            have B3 : Below w.heap.size w w3 := Below.next B2 hb3
            clear hb3
            have c0 : w3.cell? ⟨w.heap.size, 0, none⟩ = some (.string c.name) := K3.cell 0
            have c1 : w3.cell? ⟨w.heap.size, 1, none⟩ = some (.string c.unit) := K3.cell 1
            have c2 : w3.cell? ⟨w.heap.size, 2, none⟩ = some (.int .i64 c.low) := K3.cell 2
            have c3 : w3.cell? ⟨w.heap.size, 3, none⟩ = some (.int .i64 c.high) := K3.cell 3
            clear K3
            go_wp2_with (first | (go_at_call 63; (with_reducible refine (within_v H3 _).mono ?_); rintro e w' ⟨rfl, rfl⟩) | (go_at_call 63; (with_reducible refine (within_v H4 _).mono ?_); rintro e w' ⟨rfl, rfl⟩))
            go_ret
            exact ⟨ret_bool (by rw [← hv.out]; unfold chB; rw [H1.out, H2.out, H3.out, H4.out, H5.out]; rfl), B3⟩
          · have H5 := Lib.hid h5
            go_enter Try.func47, Try.ntmps47
            go_wp2_with fail
            refine (iIsName_is H1 s1 _).mono ?_
            rintro e w2 ⟨rfl, hb2⟩
            have K2 := HK.out.next hb2
            have B2 : Below w.heap.size w w2 := Below.next (by go_grown) hb2
            clear hb2
            have c0 : w2.cell? ⟨w.heap.size, 0, none⟩ = some (.string c.name) := K2.cell 0
            have c1 : w2.cell? ⟨w.heap.size, 1, none⟩ = some (.string c.unit) := K2.cell 1
            have c2 : w2.cell? ⟨w.heap.size, 2, none⟩ = some (.int .i64 c.low) := K2.cell 2
            have c3 : w2.cell? ⟨w.heap.size, 3, none⟩ = some (.int .i64 c.high) := K2.cell 3
            have HK2 := Lib.hid K2
            clear K2
            go_wp2_with fail
            clear c0 c1 c2 c3
            refine (iIsName_is H2 s2 _).mono ?_
            rintro e w3 ⟨rfl, hb3⟩
            have K3 := HK2.out.next hb3
            have B3 : Below w.heap.size w w3 := Below.next B2 hb3
            clear hb3
            have c0 : w3.cell? ⟨w.heap.size, 0, none⟩ = some (.string c.name) := K3.cell 0
            have c1 : w3.cell? ⟨w.heap.size, 1, none⟩ = some (.string c.unit) := K3.cell 1
            have c2 : w3.cell? ⟨w.heap.size, 2, none⟩ = some (.int .i64 c.low) := K3.cell 2
            have c3 : w3.cell? ⟨w.heap.size, 3, none⟩ = some (.int .i64 c.high) := K3.cell 3
            clear K3
            go_wp2_with (first | (go_at_call 63; (with_reducible refine (within_v H3 _).mono ?_); rintro e w' ⟨rfl, rfl⟩) | (go_at_call 63; (with_reducible refine (within_v H4 _).mono ?_); rintro e w' ⟨rfl, rfl⟩))
            go_ret
            exact ⟨ret_bool (by rw [← hv.out]; unfold chB; rw [H1.out, H2.out, H3.out, H4.out, H5.out]; rfl), B3⟩

theorem no_of {b : Bool} {p : Prop} (h : b = true ↔ p) (hn : ¬ p) : b = false := by
  cases b
  · rfl
  · exact absurd (h.1 rfl) hn
theorem bool_of (p : Prop) : ∃ b : Bool, b = true ↔ p := by
  by_cases h : p
  · exact ⟨true, by simp [h]⟩
  · exact ⟨false, by simp [h]⟩
theorem stOk_iff {cs : List Ch} {s : Sl (Sl Int)} : StOk cs (rowsK.pl s) ↔ 1 ≤ s.l.length ∧ s.l.length ≤ 60 ∧ ∀ j (h : j < s.l.length), RowOk cs s.l[j].l := by
  have e : rowsK.pl s = s.l.map rowK.pl := rfl
  constructor
  · intro h
    have h1 := h.lo
    have h2 := h.hi
    rw [e, List.length_map] at h1 h2
    refine ⟨h1, h2, fun j hj => ?_⟩
    have h3 := h.rows (rowK.pl s.l[j]) (by rw [e]; exact List.mem_map_of_mem (List.getElem_mem hj))
    rwa [rowK_pl] at h3
  · rintro ⟨h1, h2, h3⟩
    refine ⟨by rw [e, List.length_map]; exact h1, by rw [e, List.length_map]; exact h2, fun r hr => ?_⟩
    rw [e] at hr
    obtain ⟨q, hq, rfl⟩ := List.mem_map.1 hr
    obtain ⟨j, hj, rfl⟩ := List.mem_iff_getElem.1 hq
    rw [rowK_pl]
    exact h3 j hj
theorem more_rows {p : (j : Nat) → Prop} {k : Nat} (h : ∀ j, j < k → p j) (hk : p k) : ∀ j, j < k + 1 → p j := fun j hj => by
  rcases Nat.lt_or_eq_of_le (Nat.le_of_lt_succ hj) with h1 | h1
  · exact h j h1
  · rw [h1]; exact hk
set_option maxHeartbeats 8000000 in
theorem validRows_any (s : Sl (Sl Int)) (A : Option Addr) (n c : Nat) (cs : List Ch) (b : Bool) (w : World) (hs : rowsK.rd w s) (hsn : s.l.length ≤ 1048576) (hse : ∀ r ∈ s.l, r.l.length ≤ 1048576) (ha : Rd w A n 4 (rowOf chC cs)) (la : cs.length = n) (hn : n ≤ 1048576) (hb : b = true ↔ StOk cs (rowsK.pl s)) :
    Calls Try.prog 49 #[.agg #[.slice s.A s.l.length s.c], .slice A n c] w fun e w' => e = .returned (.bool b) ∧ Below w.heap.size w w' := by
  have hb2 : Hid (b = true ↔ 1 ≤ s.l.length ∧ s.l.length ≤ 60 ∧ ∀ j (h : j < s.l.length), RowOk cs s.l[j].l) := hb.trans stOk_iff
  clear hb
  obtain ⟨A0, c0, l⟩ := s
  simp only [] at hb2 hsn hse ⊢
  obtain ⟨m, ll⟩ : ∃ m, l.length = m := ⟨_, rfl⟩
  have h1 : Rd w A0 l.length 1 (rowOf hdC l) := hs.1
  have h2 : ∀ a ∈ l, rowK.rd w a := hs.2
  rw [ll] at h1 hsn
  rw [ll]
  have LL := Lib.hid ll
  have HA := Lib.hid ha
  have LA := Lib.hid la
  have HL := Lib.hid h1
  have HX := Lib.hid h2
  have HE := Lib.hid hse
  have HK : Hid (Bk (w.alloc (.cells #[.slice A0 m c0] 76)) w.heap.size 76 #[.slice A0 m c0]) := Bk.new w _ _
  clear hs ll ha la h1 h2 hse
  go_enter Try.func49, Try.ntmps49
  go_wp2_with fail
  go_loopw [12] (fun i wo => ∃ k : Nat, k ≤ m ∧ i = .int .i64 (k : Int) ∧ Hid (∀ j, j < k → ∀ (h : j < l.length), RowOk cs l[j].l) ∧ Hid (Bk wo w.heap.size 76 #[.slice A0 m c0]) ∧ Below w.heap.size w wo) (fun i _ => m - (intOf i).toNat)
  case atStart => exact ⟨0, Nat.zero_le _, rfl, fun j hj => absurd hj (by omega), HK.out, by go_grown⟩
  case round =>
    obtain ⟨wo, rfl⟩ : ∃ wo, wo = wr := ⟨wr, rfl⟩
    obtain ⟨k, hk, rfl, hall, hbk, hW⟩ := hrel
    have hWs := hW.size
    by_cases hlt : k < m
    · have ka : k < l.length := by have := LL.out; omega
      obtain ⟨b1, o1, rfl, l1, c1'⟩ := (HL.out.below hW).at hdC_len LL.out ka
      have c1 : wo.cell? ⟨b1, o1 + k, none⟩ = some (.slice l[k].A l[k].l.length l[k].c) := by simpa [Sl.val] using c1' 0 _ rfl
      clear c1'
      have hrow : Rd wo l[k].A l[k].l.length 1 (rowOf iC l[k].l) := (rowK_ok.below (HX.out _ (List.getElem_mem ka)) hW).1
      have hrl := HE.out _ (List.getElem_mem ka)
      obtain ⟨Ar, cr, r, hr⟩ : ∃ Ar cr r, l[k] = ⟨Ar, cr, r⟩ := ⟨l[k].A, l[k].c, l[k].l, rfl⟩
      have HRK : Hid (∀ (h : k < l.length), l[k].l = r) := fun _ => by rw [hr]
      rw [hr] at hrow hrl c1
      simp only [] at hrow hrl c1
      obtain ⟨q, hq⟩ : ∃ q, r.length = q := ⟨_, rfl⟩
      rw [hq] at hrow hrl c1
      have HR := Lib.hid hrow
      have HQ := Lib.hid hq
      clear hr hrow hq
      by_cases hlen : q = n
      · subst hlen
        go_wp2_with fail
        go_loopw [23] (fun i wr => ∃ j : Nat, j ≤ q ∧ i = .int .i64 (j : Int) ∧ Hid (∀ i, i < j → ∀ (h : i < r.length) (h2 : i < cs.length), inB r[i] cs[i].low cs[i].high = true) ∧ Below wo.heap.size wo wr) (fun i _ => q - (intOf i).toNat)
        case atStart => exact ⟨0, Nat.zero_le _, rfl, fun j hj => absurd hj (by omega), Below.refl _ _⟩
        case round =>
          obtain ⟨j, hj, rfl, hin, hWr⟩ := hrel
          have hWrs := hWr.size
          by_cases hjlt : j < q
          · have kr : j < r.length := by have := HQ.out; omega
            have kc : j < cs.length := by have := LA.out; omega
            obtain ⟨b2, o2, e2, l2, d1'⟩ := (HR.out.below hWr).at iC_len HQ.out kr
            have d1 : wr.cell? ⟨b2, o2 + j, none⟩ = some (.int .i64 r[j]) := by simpa using d1' 0 _ rfl
            clear d1'
            obtain ⟨b3, o3, e3, l3, d2'⟩ := ((HA.out.below hW).below hWr).at chC_len LA.out kc
            have d2 : wr.cell? ⟨b3, o3 + j * 4 + 2, none⟩ = some (.int .i64 cs[j].low) := d2' 2 _ rfl
            have d3 : wr.cell? ⟨b3, o3 + j * 4 + 3, none⟩ = some (.int .i64 cs[j].high) := d2' 3 _ rfl
            clear d2'
            have E2 := Lib.hid e2
            have E3 := Lib.hid e3
            rw [e2, e3]
            clear e2 e3
            have hk0 : (0 : Int) ≤ (j : Int) := by omega
            have hkn : (j : Int) < (q : Int) := by omega
            cases hx : inB r[j] cs[j].low cs[j].high
            · have HX2 := Lib.hid hx
              have HN : Hid (¬ RowOk cs r) := rowB_stop kr kc hx
              clear hx
              go_wp2_with fail
              go_quiet ((first | (go_at_call 63; first | with_reducible exact quiet_mine (within_v HX2 _) | with_reducible exact quiet_mine2 (within_v HX2 _))))
              go_wp2_with fail
              go_ret
              refine ⟨ret_bool (no_of hb2.out fun h => HN.out ?_).symm, below_drewN (hW.trans (hWr.mono (by omega))) _⟩
              have := h.2.2 k ka
              rw [HRK.out] at this
              exact this
            · have HX2 := Lib.hid hx
              have HM : Hid (∀ i, i < j + 1 → ∀ (h : i < r.length) (h2 : i < cs.length), inB r[i] cs[i].low cs[i].high = true) := more_rows (p := fun i => ∀ (h : i < r.length) (h2 : i < cs.length), inB r[i] cs[i].low cs[i].high = true) hin.out fun _ _ => hx
              clear hx
              go_wp2_with fail
              go_quiet ((first | (go_at_call 63; first | with_reducible exact quiet_mine (within_v HX2 _) | with_reducible exact quiet_mine2 (within_v HX2 _))))
              go_wp2_with fail
              go_roundw
              case rel => exact ⟨j + 1, by omega, by go_num, HM, below_drewN hWr _⟩
              case measure => simp [intOf]; omega
          · have HRow : Hid (RowOk cs r) := ⟨by rw [HQ.out, LA.out], fun i h h2 => hin.out i (by have := HQ.out; omega) h h2⟩
            go_wp2_with fail
            go_roundw
            case rel =>
              refine ⟨k + 1, by omega, by go_num, more_rows (p := fun j => ∀ (h : j < l.length), RowOk cs l[j].l) hall.out fun h => by rw [HRK.out]; exact HRow.out, hbk.out.next hWr, hW.trans (hWr.mono (by omega))⟩
            case measure => simp [intOf]; omega
      · have hlb : decide (q = n) = false := decide_eq_false hlen
        have hlb2 : ((q : Int) != (n : Int)) = true := by simp; omega
        go_wp2_with fail
        go_ret
        refine ⟨ret_bool (no_of hb2.out fun h => ?_).symm, hW⟩
        have := (h.2.2 k ka).1
        rw [HRK.out, HQ.out, LA.out] at this
        exact hlen this
    · obtain ⟨e0, f0⟩ := bk1 hbk.out
      have HALL : Hid (∀ j (h : j < l.length), RowOk cs l[j].l) := fun j h => hall.out j (by have := LL.out; omega) h
      by_cases h1 : 1 ≤ m
      · by_cases h60 : m ≤ 60
        · go_wp2_with fail
          go_ret
          exact ⟨ret_bool (by rw [hb2.out.2 ⟨by rw [LL.out]; exact h1, by rw [LL.out]; exact h60, HALL.out⟩]; exact decide_eq_true (by omega)), hW⟩
        · go_wp2_with fail
          go_ret
          exact ⟨ret_bool (by rw [no_of hb2.out fun h => h60 (by rw [← LL.out]; exact h.2.1)]; exact decide_eq_false (by omega)), hW⟩
      · go_wp2_with fail
        go_ret
        exact ⟨ret_bool (no_of hb2.out fun h => h1 (by rw [← LL.out]; exact h.1)).symm, hW⟩
theorem noted_any (v0 v2 : Value) (A : Option Addr) (m c : Nat) (n : No) (v : Bool) (w : World) (hm : m ≤ 1048576) (hv : Hid (noB m n = v)) :
    Calls Try.prog 24 #[.agg #[v0, .slice A m c, v2], .agg #[.int .i64 n.fr, .int .i64 n.til, .string n.text]] w fun e w' => e = .returned (.bool v) ∧ Below w.heap.size w w' := by
  by_cases h1 : 0 ≤ n.fr
  · by_cases h2 : n.fr < n.til
    · by_cases h3 : n.til ≤ (m : Int)
      · go_enter Try.func24, Try.ntmps24
        go_wp2_with fail
        go_ret
        exact ⟨ret_bool (by rw [← hv.out]; unfold noB; rw [decide_eq_true ⟨h1, h2, h3⟩]), by go_grown⟩
      · go_enter Try.func24, Try.ntmps24
        go_wp2_with fail
        go_ret
        exact ⟨ret_bool (by rw [← hv.out]; unfold noB; exact (decide_eq_false (by omega)).symm), by go_grown⟩
    · go_enter Try.func24, Try.ntmps24
      go_wp2_with fail
      go_ret
      exact ⟨ret_bool (by rw [← hv.out]; unfold noB; exact (decide_eq_false (by omega)).symm), by go_grown⟩
  · go_enter Try.func24, Try.ntmps24
    go_wp2_with fail
    go_ret
    exact ⟨ret_bool (by rw [← hv.out]; unfold noB; exact (decide_eq_false (by omega)).symm), by go_grown⟩
end Go.Proofs.Ytmdmjnhebbhjbaa
namespace Go.Proofs.Ytmdmjnhebbhjbaa
set_option linter.unusedSimpArgs false
set_option linter.unusedVariables false
set_option maxRecDepth 20000
open Go.RowKit
open Go.ChangeShapes Go.WideShapes Go.Deep Go.Joins

theorem fileOk_iff {f : Fl} : FileOk (filePl f) ↔ 1 ≤ f.ch.l.length ∧ f.ch.l.length ≤ 6 ∧ f.st.l.length ≤ 16 ∧ f.no.l.length ≤ 12 ∧ (∀ j, j < f.ch.l.length → ∀ (h : j < f.ch.l.length), chB f.ch.l[j] = true ∧ idxZ f.ch.l f.ch.l[j].name = (j : Int)) ∧ (∀ j, j < f.st.l.length → ∀ (h : j < f.st.l.length), StOk f.ch.l (rowsK.pl f.st.l[j])) ∧ (∀ j, j < f.no.l.length → ∀ (h : j < f.no.l.length), noB f.st.l.length f.no.l[j] = true ∧ nameB f.no.l[j].text.data.toList = true) := by
  have e : (filePl f).st = f.st.l.map rowsK.pl := rfl
  have e2 : (filePl f).st.length = f.st.l.length := by rw [e, List.length_map]
  constructor
  · intro h
    refine ⟨h.c1, h.c6, by rw [← e2]; exact h.s16, h.n12, fun j _ hj => ?_, fun j _ hj => h.sts _ (by rw [e]; exact List.mem_map_of_mem (List.getElem_mem hj)), fun j _ hj => by rw [← e2]; exact h.nos _ (List.getElem_mem hj)⟩
    obtain ⟨h1, h2⟩ := h.chs j hj
    refine ⟨h1, ?_⟩
    have h2' : idxC f.ch.l f.ch.l[j].name = j := h2
    unfold idxZ
    rw [h2', if_pos hj]
  · rintro ⟨h1, h2, h3, h4, h5, h6, h7⟩
    refine ⟨h1, h2, by rw [e2]; exact h3, h4, fun j hj => ?_, fun s hs => ?_, fun n hn => ?_⟩
    · obtain ⟨a, b⟩ := h5 j hj hj
      refine ⟨a, ?_⟩
      show idxC f.ch.l f.ch.l[j].name = j
      unfold idxZ at b
      split at b
      · omega
      · omega
    · rw [e] at hs
      obtain ⟨q, hq, rfl⟩ := List.mem_map.1 hs
      obtain ⟨j, hj, rfl⟩ := List.mem_iff_getElem.1 hq
      exact h6 j hj hj
    · obtain ⟨j, hj, rfl⟩ := List.mem_iff_getElem.1 hn
      rw [e2]
      exact h7 j hj hj
set_option maxHeartbeats 8000000 in
theorem iValidFile_any (f : Fl) (b : Bool) (w : World) (h : FileRd w f) (hs : FileSz f) (ht : PlTx (filePl f)) (hb : b = true ↔ FileOk (filePl f)) :
    Calls Try.prog 23 #[.agg #[.slice f.ch.A f.ch.l.length f.ch.c, .slice f.st.A f.st.l.length f.st.c, .slice f.no.A f.no.l.length f.no.c]] w fun e w' => e = .returned (.bool b) ∧ Below w.heap.size w w' := by
  have hb2 := Lib.hid (hb.trans fileOk_iff)
  have hx1 : ∀ c ∈ f.ch.l, c.name.size ≤ 1048576 ∧ c.unit.size ≤ 1048576 := ht.chs
  have hx2 : ∀ n ∈ f.no.l, n.text.size ≤ 1048576 := ht.nos
  obtain ⟨r1, r2, r3⟩ := h
  obtain ⟨z1, z2, z4, _, z3⟩ := hs
  clear hb ht
  obtain ⟨⟨A1, c1, cs⟩, ⟨A2, c2, ss⟩, ⟨A3, c3, ns⟩⟩ := f
  simp only [] at hb2 hx1 hx2 z1 z2 z3 z4 ⊢
  obtain ⟨n1, l1⟩ : ∃ m, cs.length = m := ⟨_, rfl⟩
  obtain ⟨n2, l2⟩ : ∃ m, ss.length = m := ⟨_, rfl⟩
  obtain ⟨n3, l3⟩ : ∃ m, ns.length = m := ⟨_, rfl⟩
  have ra : Rd w A1 cs.length 4 (rowOf chC cs) := r1.1
  have rb : Rd w A2 ss.length 1 (rowOf hdC ss) := r2.1
  have rb2 : ∀ a ∈ ss, rowsK.rd w a := r2.2
  have rc : Rd w A3 ns.length 3 (rowOf noC ns) := r3.1
  have hb3 : Hid (b = true ↔ 1 ≤ n1 ∧ n1 ≤ 6 ∧ n2 ≤ 16 ∧ n3 ≤ 12 ∧ (∀ j, j < n1 → ∀ (h : j < cs.length), chB cs[j] = true ∧ idxZ cs cs[j].name = (j : Int)) ∧ (∀ j, j < n2 → ∀ (h : j < ss.length), StOk cs (rowsK.pl ss[j])) ∧ (∀ j, j < n3 → ∀ (h : j < ns.length), noB n2 ns[j] = true ∧ nameB ns[j].text.data.toList = true)) := by
    subst l1 l2 l3; exact hb2
  clear hb2
  have hb2 := hb3
  clear hb3
  rw [l1] at ra z1 ⊢
  rw [l2] at rb z2 ⊢
  rw [l3] at rc z3 ⊢
  have R1 := Lib.hid ra
  have R2 := Lib.hid rb
  have R22 := Lib.hid rb2
  have R3 := Lib.hid rc
  have L1 := Lib.hid l1
  have L2 := Lib.hid l2
  have L3 := Lib.hid l3
  have X1 := Lib.hid hx1
  have X2 := Lib.hid hx2
  have Z4 := Lib.hid z4
  have HK : Hid (Bk (w.alloc (.cells #[.slice A1 n1 c1, .slice A2 n2 c2, .slice A3 n3 c3] 35)) w.heap.size 35 #[.slice A1 n1 c1, .slice A2 n2 c2, .slice A3 n3 c3]) := Bk.new w _ _
  clear r1 r2 r3 ra rb rb2 rc l1 l2 l3 hx1 hx2 z4
  by_cases h1 : 1 ≤ n1
  rotate_left
  · go_enter Try.func23, Try.ntmps23
    go_wp2_with fail
    go_ret
    exact ⟨ret_bool (no_of hb2.out fun h => h1 h.1).symm, by go_grown⟩
  by_cases h2 : n1 ≤ 6
  rotate_left
  · go_enter Try.func23, Try.ntmps23
    go_wp2_with fail
    go_ret
    exact ⟨ret_bool (no_of hb2.out fun h => h2 h.2.1).symm, by go_grown⟩
  by_cases h3 : n2 ≤ 16
  rotate_left
  · go_enter Try.func23, Try.ntmps23
    go_wp2_with fail
    go_ret
    exact ⟨ret_bool (no_of hb2.out fun h => h3 h.2.2.1).symm, by go_grown⟩
  by_cases h4 : n3 ≤ 12
  rotate_left
  · go_enter Try.func23, Try.ntmps23
    go_wp2_with fail
    go_ret
    exact ⟨ret_bool (no_of hb2.out fun h => h4 h.2.2.2.1).symm, by go_grown⟩
  have HN := Lib.hid (show 1 ≤ n1 ∧ n1 ≤ 6 ∧ n2 ≤ 16 ∧ n3 ≤ 12 from ⟨h1, h2, h3, h4⟩)
  go_enter Try.func23, Try.ntmps23
  go_wp2_with fail
  clear h1
  go_loopw [34] (fun i wo => ∃ k : Nat, k ≤ n1 ∧ i = .int .i64 (k : Int) ∧ Hid (∀ j, j < k → ∀ (h : j < cs.length), chB cs[j] = true ∧ idxZ cs cs[j].name = (j : Int)) ∧ Hid (Bk wo w.heap.size 35 #[.slice A1 n1 c1, .slice A2 n2 c2, .slice A3 n3 c3]) ∧ Below w.heap.size w wo) (fun i _ => n1 - (intOf i).toNat)
  case atStart => exact ⟨0, Nat.zero_le _, rfl, fun j hj => absurd hj (by omega), HK.out, by go_grown⟩
  case round =>
    obtain ⟨k, hk, rfl, hall, hbk, hW⟩ := hrel
    have hWs := hW.size
    by_cases hlt : k < n1
    · have ka : k < cs.length := by have := L1.out; omega
      obtain ⟨b1, o1, rfl, lb, c0⟩ := (R1.out.below hW).at chC_len L1.out ka
      have d1 : wr.cell? ⟨b1, o1 + k * 4, none⟩ = some (.string cs[k].name) := c0 0 _ rfl
      have d2 : wr.cell? ⟨b1, o1 + k * 4 + 1, none⟩ = some (.string cs[k].unit) := c0 1 _ rfl
      have d3 : wr.cell? ⟨b1, o1 + k * 4 + 2, none⟩ = some (.int .i64 cs[k].low) := c0 2 _ rfl
      have d4 : wr.cell? ⟨b1, o1 + k * 4 + 3, none⟩ = some (.int .i64 cs[k].high) := c0 3 _ rfl
      clear c0
      have hsz := X1.out _ (List.getElem_mem ka)
      have HE : Hid (Bk (wr.alloc (.cells #[.string cs[k].name, .string cs[k].unit, .int .i64 cs[k].low, .int .i64 cs[k].high] 74)) wr.heap.size 74 #[.string cs[k].name, .string cs[k].unit, .int .i64 cs[k].low, .int .i64 cs[k].high]) := Bk.new wr _ _
      have HF := Lib.hid (hbk.out.alloc (.cells #[.string cs[k].name, .string cs[k].unit, .int .i64 cs[k].low, .int .i64 cs[k].high] 74))
      cases hv : chB cs[k]
      · have HV := Lib.hid hv
        clear hv
        go_wp2_with fail
        refine (validCh_any cs[k] false _ hsz HV).mono ?_
        rintro e w2 ⟨rfl, hb3⟩
        have hW2 := Below.next (Below.trans hW (by go_grown : Below w.heap.size wr _)) hb3
        clear hb3
        go_wp2_with fail
        go_ret
        refine ⟨ret_bool (no_of hb2.out fun h => ?_).symm, hW2⟩
        have := (h.2.2.2.2.1 k hlt ka).1
        rw [HV.out] at this
        exact absurd this (by simp)
      · have HV := Lib.hid hv
        clear hv
        obtain ⟨z, hz⟩ : ∃ z, idxZ cs cs[k].name = z := ⟨_, rfl⟩
        have HZ := Lib.hid hz
        clear hz
        cases hq : (z != (k : Int))
        · have hzk : z = (k : Int) := by simpa using hq
          have HM : Hid (∀ j, j < k + 1 → ∀ (h : j < cs.length), chB cs[j] = true ∧ idxZ cs cs[j].name = (j : Int)) := more_rows (p := fun j => ∀ (h : j < cs.length), chB cs[j] = true ∧ idxZ cs cs[j].name = (j : Int)) hall.out fun h => ⟨HV.out, by rw [← hzk]; exact HZ.out⟩
          clear hzk
          go_wp2_with fail
          refine (validCh_any cs[k] true _ hsz HV).mono ?_
          rintro e w2 ⟨rfl, hb3⟩
          have hW2 := Below.next (Below.trans hW (by go_grown : Below w.heap.size wr _)) hb3
          have HE2 := HE.out.next hb3
          have HF2 := HF.out.next hb3
          have y0 := HE2.cell 0
          have y1 := HF2.cell 0
          have y2 := HE2.lt
          have y3 := HF2.lt
          have HF2' := Lib.hid HF2
          clear hb3 HE2 HF2
          go_wp2_with fail
          refine (indexOf_any _ n1 c1 cs cs[k].name z _ (R1.out.below hW2) L1.out z1 HZ).mono ?_
          rintro e w3 ⟨rfl, hb4⟩
          have hW3 := Below.next hW2 hb4
          have HF3 := Lib.hid (HF2'.out.next hb4)
          clear hb4 y0 y1 y2 y3
          go_wp2_with fail
          go_roundw
          case rel => exact ⟨k + 1, by omega, by go_num, HM, HF3.out, hW3⟩
          case measure => simp [intOf]; omega
        · have HQ : Hid (¬ z = (k : Int)) := by simpa [Hid] using hq
          go_wp2_with fail
          refine (validCh_any cs[k] true _ hsz HV).mono ?_
          rintro e w2 ⟨rfl, hb3⟩
          have hW2 := Below.next (Below.trans hW (by go_grown : Below w.heap.size wr _)) hb3
          have HE2 := HE.out.next hb3
          have HF2 := HF.out.next hb3
          have y0 := HE2.cell 0
          have y1 := HF2.cell 0
          have y2 := HE2.lt
          have y3 := HF2.lt
          clear hb3 HE2 HF2
          go_wp2_with fail
          refine (indexOf_any _ n1 c1 cs cs[k].name z _ (R1.out.below hW2) L1.out z1 HZ).mono ?_
          rintro e w3 ⟨rfl, hb4⟩
          have hW3 := Below.next hW2 hb4
          clear hb4 y0 y1 y2 y3
          go_wp2_with fail
          go_ret
          refine ⟨ret_bool (no_of hb2.out fun h => HQ.out ?_).symm, hW3⟩
          have := (h.2.2.2.2.1 k hlt ka).2
          rw [HZ.out] at this
          exact this
    · have HC : Hid (∀ j, j < n1 → ∀ (h : j < cs.length), chB cs[j] = true ∧ idxZ cs cs[j].name = (j : Int)) := fun j hj => hall.out j (by omega)
      have e0 := hbk.out.cell 0
      have e1 := hbk.out.cell 1
      have e2 := hbk.out.cell 2
      have hbl := hbk.out.lt
      have HK2 := hbk
      clear HK
      obtain ⟨wb, rfl⟩ : ∃ wb, wb = wr := ⟨wr, rfl⟩
      go_wp2_with fail
      go_loopw [55] (fun i wo => ∃ k : Nat, k ≤ n2 ∧ i = .int .i64 (k : Int) ∧ Hid (∀ j, j < k → ∀ (h : j < ss.length), StOk cs (rowsK.pl ss[j])) ∧ Hid (Bk wo w.heap.size 35 #[.slice A1 n1 c1, .slice A2 n2 c2, .slice A3 n3 c3]) ∧ Below w.heap.size w wo) (fun i _ => n2 - (intOf i).toNat)
      case atStart => exact ⟨0, Nat.zero_le _, rfl, fun j hj => absurd hj (by omega), HK2.out, hW⟩
      case round =>
        clear hbk hall hW e0 e1 e2 hbl HK2 hWs hlt hk
        obtain ⟨k, hk, rfl, hall, hbk, hW⟩ := hrel
        have hWs := hW.size
        have e0 := hbk.out.cell 0
        have e1 := hbk.out.cell 1
        have e2 := hbk.out.cell 2
        have hbl := hbk.out.lt
        by_cases hlt : k < n2
        · have ka : k < ss.length := by have := L2.out; omega
          obtain ⟨b1, o1, rfl, lb, c0⟩ := (R2.out.below hW).at hdC_len L2.out ka
          have d1 : wr.cell? ⟨b1, o1 + k, none⟩ = some (.slice ss[k].A ss[k].l.length ss[k].c) := by simpa [Sl.val] using c0 0 _ rfl
          clear c0
          have hsz := Z4.out _ (List.getElem_mem ka)
          have HF := Lib.hid (hbk.out.alloc (.cells #[.slice ss[k].A ss[k].l.length ss[k].c] 76))
          have hWa := Lib.hid (hW.alloc hWs (.cells #[.slice ss[k].A ss[k].l.length ss[k].c] 76))
          obtain ⟨v, hv⟩ := bool_of (StOk cs (rowsK.pl ss[k]))
          go_wp2_with fail
          refine (validRows_any ss[k] A1 n1 c1 cs v _ (rowsK_ok.below (R22.out _ (List.getElem_mem ka)) hWa.out) hsz.1 hsz.2.1 (R1.out.below hWa.out) L1.out z1 hv).mono ?_
          rintro e w2 ⟨rfl, hb3⟩
          have hW2 := Below.next hWa.out hb3
          have HF2 := Lib.hid (HF.out.next hb3)
          clear hb3
          cases v
          · go_wp2_with fail
            go_ret
            refine ⟨ret_bool (no_of hb2.out fun h => ?_).symm, hW2⟩
            exact absurd (hv.2 (h.2.2.2.2.2.1 k hlt ka)) (by simp)
          · have HM : Hid (∀ j, j < k + 1 → ∀ (h : j < ss.length), StOk cs (rowsK.pl ss[j])) := more_rows (p := fun j => ∀ (h : j < ss.length), StOk cs (rowsK.pl ss[j])) hall.out fun _ => hv.1 rfl
            go_wp2_with fail
            go_roundw
            case rel => exact ⟨k + 1, by omega, by go_num, HM, HF2.out, hW2⟩
            case measure => simp [intOf]; omega
        · have HS : Hid (∀ j, j < n2 → ∀ (h : j < ss.length), StOk cs (rowsK.pl ss[j])) := fun j hj => hall.out j (by omega)
          have HK2 := hbk
          obtain ⟨wc, rfl⟩ : ∃ wc, wc = wr := ⟨wr, rfl⟩
          go_wp2_with fail
          go_loopw [68] (fun i wo => ∃ k : Nat, k ≤ n3 ∧ i = .int .i64 (k : Int) ∧ Hid (∀ j, j < k → ∀ (h : j < ns.length), noB n2 ns[j] = true ∧ nameB ns[j].text.data.toList = true) ∧ Hid (Bk wo w.heap.size 35 #[.slice A1 n1 c1, .slice A2 n2 c2, .slice A3 n3 c3]) ∧ Below w.heap.size w wo) (fun i _ => n3 - (intOf i).toNat)
          case atStart => exact ⟨0, Nat.zero_le _, rfl, fun j hj => absurd hj (by omega), HK2.out, hW⟩
          case round =>
            clear hbk hall hW e0 e1 e2 hbl HK2 hWs hlt hk
            obtain ⟨k, hk, rfl, hall, hbk, hW⟩ := hrel
            have hWs := hW.size
            have e0 := hbk.out.cell 0
            have e1 := hbk.out.cell 1
            have e2 := hbk.out.cell 2
            have hbl := hbk.out.lt
            by_cases hlt : k < n3
            · have ka : k < ns.length := by have := L3.out; omega
              obtain ⟨b1, o1, rfl, lb, c0⟩ := (R3.out.below hW).at noC_len L3.out ka
              have d1 : wr.cell? ⟨b1, o1 + k * 3, none⟩ = some (.int .i64 ns[k].fr) := c0 0 _ rfl
              have d2 : wr.cell? ⟨b1, o1 + k * 3 + 1, none⟩ = some (.int .i64 ns[k].til) := c0 1 _ rfl
              have d3 : wr.cell? ⟨b1, o1 + k * 3 + 2, none⟩ = some (.string ns[k].text) := c0 2 _ rfl
              clear c0
              have hsz := X2.out _ (List.getElem_mem ka)
              have HE : Hid (Bk (wr.alloc (.cells #[.int .i64 ns[k].fr, .int .i64 ns[k].til, .string ns[k].text] 39)) wr.heap.size 39 #[.int .i64 ns[k].fr, .int .i64 ns[k].til, .string ns[k].text]) := Bk.new wr _ _
              have HF := Lib.hid (hbk.out.alloc (.cells #[.int .i64 ns[k].fr, .int .i64 ns[k].til, .string ns[k].text] 39))
              have hWa := Lib.hid (hW.alloc hWs (.cells #[.int .i64 ns[k].fr, .int .i64 ns[k].til, .string ns[k].text] 39))
              cases hv : noB n2 ns[k]
              · have HV := Lib.hid hv
                clear hv
                go_wp2_with fail
                refine (noted_any _ _ A2 n2 c2 ns[k] false _ z2 HV).mono ?_
                rintro e w2 ⟨rfl, hb3⟩
                have hW2 := Below.next hWa.out hb3
                clear hb3
                go_wp2_with fail
                go_ret
                refine ⟨ret_bool (no_of hb2.out fun h => ?_).symm, hW2⟩
                have := (h.2.2.2.2.2.2 k hlt ka).1
                rw [HV.out] at this
                exact absurd this (by simp)
              · have HV := Lib.hid hv
                clear hv
                cases hq : nameB ns[k].text.data.toList
                · have HQ := Lib.hid hq
                  clear hq
                  go_wp2_with fail
                  refine (noted_any _ _ A2 n2 c2 ns[k] true _ z2 HV).mono ?_
                  rintro e w2 ⟨rfl, hb3⟩
                  have hW2 := Below.next hWa.out hb3
                  have HE2 := HE.out.next hb3
                  have y0 := HE2.cell 2
                  have y2 := HE2.lt
                  clear hb3 HE2
                  go_wp2_with fail
                  refine (iIsName_is HQ hsz _).mono ?_
                  rintro e w3 ⟨rfl, hb4⟩
                  have hW3 := Below.next hW2 hb4
                  clear hb4 y0 y2
                  go_wp2_with fail
                  go_ret
                  refine ⟨ret_bool (no_of hb2.out fun h => ?_).symm, hW3⟩
                  have := (h.2.2.2.2.2.2 k hlt ka).2
                  rw [HQ.out] at this
                  exact absurd this (by simp)
                · have HQ := Lib.hid hq
                  clear hq
                  have HM : Hid (∀ j, j < k + 1 → ∀ (h : j < ns.length), noB n2 ns[j] = true ∧ nameB ns[j].text.data.toList = true) := more_rows (p := fun j => ∀ (h : j < ns.length), noB n2 ns[j] = true ∧ nameB ns[j].text.data.toList = true) hall.out fun _ => ⟨HV.out, HQ.out⟩
                  go_wp2_with fail
                  refine (noted_any _ _ A2 n2 c2 ns[k] true _ z2 HV).mono ?_
                  rintro e w2 ⟨rfl, hb3⟩
                  have hW2 := Below.next hWa.out hb3
                  have HE2 := HE.out.next hb3
                  have HF2 := Lib.hid (HF.out.next hb3)
                  have y0 := HE2.cell 2
                  have y2 := HE2.lt
                  clear hb3 HE2
                  go_wp2_with fail
                  refine (iIsName_is HQ hsz _).mono ?_
                  rintro e w3 ⟨rfl, hb4⟩
                  have hW3 := Below.next hW2 hb4
                  have HF3 := Lib.hid (HF2.out.next hb4)
                  clear hb4 y0 y2
                  go_wp2_with fail
                  go_roundw
                  case rel => exact ⟨k + 1, by omega, by go_num, HM, HF3.out, hW3⟩
                  case measure => simp [intOf]; omega
            · have HNo : Hid (∀ j, j < n3 → ∀ (h : j < ns.length), noB n2 ns[j] = true ∧ nameB ns[j].text.data.toList = true) := fun j hj => hall.out j (by omega)
              go_wp2_with fail
              go_ret
              exact ⟨ret_bool (hb2.out.2 ⟨HN.out.1, HN.out.2.1, HN.out.2.2.1, HN.out.2.2.2, HC.out, HS.out, HNo.out⟩).symm, hW⟩
end Go.Proofs.Ytmdmjnhebbhjbaa
namespace Go.Proofs.Ytmdmjnhebbhjbaa
set_option linter.unusedSimpArgs false
set_option linter.unusedVariables false
set_option maxRecDepth 20000
open Go.RowKit
open Go.ChangeShapes Go.WideShapes Go.Deep Go.Joins

theorem sIsName_is {s : ByteArray} {v : Bool} (h : Hid (nameB s.data.toList = v)) (hs : s.size ≤ 1048576) (w : World) :
    Calls Try.prog 18 #[.string s] w fun e w' => e = .returned (.bool v) ∧ w = w' := by rw [← h.out]; exact sIsName s w hs
theorem l00In_v {n low high : Int} {b : Bool} (h : Hid (inB n low high = b)) (w : World) :
    Calls Try.prog 41 #[.int .i64 n, .int .i64 low, .int .i64 high] w fun e w' => e = .returned (.bool b) ∧ w = w' := by
  rw [← h.out]; exact l00In_any n low high w
theorem l03Value_v {n : Int} {b : Bool} (h : Hid (inB n (-1000000000) 1000000000 = b)) (w : World) :
    Calls Try.prog 61 #[.int .i64 n] w fun e w' => e = .returned (.bool b) ∧ w = w' := by
  go_enter Try.func61, Try.ntmps61
  go_wp2_with ((go_at_call 41; refine (l00In_v h _).mono ?_; rintro e w' ⟨rfl, rfl⟩))
  go_ret
  exact ⟨rfl, rfl⟩
set_option maxHeartbeats 4000000 in
theorem l03Channel_any (b o : Nat) (c : Ch) (v : Bool) (w : World) (d0 : w.cell? ⟨b, o, none⟩ = some (.string c.name)) (d1 : w.cell? ⟨b, o + 1, none⟩ = some (.string c.unit)) (d2 : w.cell? ⟨b, o + 2, none⟩ = some (.int .i64 c.low)) (d3 : w.cell? ⟨b, o + 3, none⟩ = some (.int .i64 c.high)) (hs : c.name.size ≤ 1048576 ∧ c.unit.size ≤ 1048576) (hv : Hid (chB c = v)) :
    Calls Try.prog 38 #[.pointer (some ⟨b, o, none⟩)] w fun e w' => e = .returned (.bool v) ∧ Below w.heap.size w w' := by
  obtain ⟨s1, s2⟩ := hs
  have hlt : b < w.heap.size := block_lt_of_cell d0
  cases h1 : nameB c.name.data.toList
  · have H1 := Lib.hid h1
    clear h1
    go_enter Try.func38, Try.ntmps38
    go_wp2_with fail
    go_quiet ((first | (go_at_call 18; first | with_reducible exact quiet_mine (sIsName_is H1 s1 _) | with_reducible exact quiet_mine2 (sIsName_is H1 s1 _))))
    go_wp2_with fail
    go_ret
    exact ⟨ret_bool (by rw [← hv.out]; unfold chB; rw [H1.out]; rfl), below_drewN (Below.refl _ _) _⟩
  · have H1 := Lib.hid h1
    clear h1
    cases h2 : nameB c.unit.data.toList
    · have H2 := Lib.hid h2
      clear h2
      go_enter Try.func38, Try.ntmps38
      go_wp2_with fail
      go_quiet ((first | (go_at_call 18; first | with_reducible exact quiet_mine (sIsName_is H1 s1 _) | with_reducible exact quiet_mine2 (sIsName_is H1 s1 _)) | (go_at_call 18; first | with_reducible exact quiet_mine (sIsName_is H2 s2 _) | with_reducible exact quiet_mine2 (sIsName_is H2 s2 _))))
      go_wp2_with fail
      go_ret
      exact ⟨ret_bool (by rw [← hv.out]; unfold chB; rw [H1.out, H2.out]; rfl), below_drewN (Below.refl _ _) _⟩
    · have H2 := Lib.hid h2
      clear h2
      cases h3 : inB c.low (-1000000000) 1000000000
      · have H3 := Lib.hid h3
        clear h3
        go_enter Try.func38, Try.ntmps38
        go_wp2_with fail
        go_quiet ((first | (go_at_call 18; first | with_reducible exact quiet_mine (sIsName_is H1 s1 _) | with_reducible exact quiet_mine2 (sIsName_is H1 s1 _)) | (go_at_call 18; first | with_reducible exact quiet_mine (sIsName_is H2 s2 _) | with_reducible exact quiet_mine2 (sIsName_is H2 s2 _)) | (go_at_call 61; first | with_reducible exact quiet_mine (l03Value_v H3 _) | with_reducible exact quiet_mine2 (l03Value_v H3 _))))
        go_wp2_with fail
        go_ret
        exact ⟨ret_bool (by rw [← hv.out]; unfold chB; rw [H1.out, H2.out, H3.out]; rfl), below_drewN (Below.refl _ _) _⟩
      · have H3 := Lib.hid h3
        clear h3
        cases h4 : inB c.high (-1000000000) 1000000000
        · have H4 := Lib.hid h4
          clear h4
          go_enter Try.func38, Try.ntmps38
          go_wp2_with fail
          go_quiet ((first | (go_at_call 18; first | with_reducible exact quiet_mine (sIsName_is H1 s1 _) | with_reducible exact quiet_mine2 (sIsName_is H1 s1 _)) | (go_at_call 18; first | with_reducible exact quiet_mine (sIsName_is H2 s2 _) | with_reducible exact quiet_mine2 (sIsName_is H2 s2 _)) | (go_at_call 61; first | with_reducible exact quiet_mine (l03Value_v H3 _) | with_reducible exact quiet_mine2 (l03Value_v H3 _)) | (go_at_call 61; first | with_reducible exact quiet_mine (l03Value_v H4 _) | with_reducible exact quiet_mine2 (l03Value_v H4 _))))
          go_wp2_with fail
          go_ret
          exact ⟨ret_bool (by rw [← hv.out]; unfold chB; rw [H1.out, H2.out, H3.out, H4.out]; rfl), below_drewN (Below.refl _ _) _⟩
        · have H4 := Lib.hid h4
          clear h4
          cases h5 : decide (c.low < c.high)
          · have H5 := Lib.hid h5
            go_enter Try.func38, Try.ntmps38
            go_wp2_with fail
            go_quiet ((first | (go_at_call 18; first | with_reducible exact quiet_mine (sIsName_is H1 s1 _) | with_reducible exact quiet_mine2 (sIsName_is H1 s1 _)) | (go_at_call 18; first | with_reducible exact quiet_mine (sIsName_is H2 s2 _) | with_reducible exact quiet_mine2 (sIsName_is H2 s2 _)) | (go_at_call 61; first | with_reducible exact quiet_mine (l03Value_v H3 _) | with_reducible exact quiet_mine2 (l03Value_v H3 _)) | (go_at_call 61; first | with_reducible exact quiet_mine (l03Value_v H4 _) | with_reducible exact quiet_mine2 (l03Value_v H4 _))))
            go_wp2_with fail
            go_ret
            exact ⟨ret_bool (by rw [← hv.out]; unfold chB; rw [H1.out, H2.out, H3.out, H4.out, H5.out]; rfl), below_drewN (Below.refl _ _) _⟩
          · have H5 := Lib.hid h5
            go_enter Try.func38, Try.ntmps38
            go_wp2_with fail
            go_quiet ((first | (go_at_call 18; first | with_reducible exact quiet_mine (sIsName_is H1 s1 _) | with_reducible exact quiet_mine2 (sIsName_is H1 s1 _)) | (go_at_call 18; first | with_reducible exact quiet_mine (sIsName_is H2 s2 _) | with_reducible exact quiet_mine2 (sIsName_is H2 s2 _)) | (go_at_call 61; first | with_reducible exact quiet_mine (l03Value_v H3 _) | with_reducible exact quiet_mine2 (l03Value_v H3 _)) | (go_at_call 61; first | with_reducible exact quiet_mine (l03Value_v H4 _) | with_reducible exact quiet_mine2 (l03Value_v H4 _))))
            go_wp2_with fail
            go_ret
            exact ⟨ret_bool (by rw [← hv.out]; unfold chB; rw [H1.out, H2.out, H3.out, H4.out, H5.out]; rfl), below_drewN (Below.refl _ _) _⟩

set_option maxHeartbeats 4000000 in
theorem l03Find_any (b : Nat) (A : Option Addr) (n c : Nat) (cs : List Ch) (s : ByteArray) (z : Int) (w : World) (h0 : w.cell? ⟨b, 0, none⟩ = some (.slice A n c)) (ha : Rd w A n 4 (rowOf chC cs)) (la : cs.length = n) (hn : n ≤ 1048576) (hz : Hid (idxZ cs s = z)) :
    Calls Try.prog 39 #[.pointer (some ⟨b, 0, none⟩), .string s] w fun e w' => e = .returned (.int .i64 z) ∧ w = w' := by
  have hlt : b < w.heap.size := block_lt_of_cell h0
  have HA := Lib.hid ha
  have LA := Lib.hid la
  clear ha la
  go_enter Try.func39, Try.ntmps39
  go_wp2_with fail
  go_loop [5] (fun i => ∃ k : Nat, k ≤ n ∧ i = .int .i64 (k : Int) ∧ Hid (k ≤ idxC cs s)) (fun i => n - (intOf i).toNat)
  case atStart => exact ⟨0, Nat.zero_le _, rfl, Nat.zero_le _⟩
  case round =>
    obtain ⟨k, hk, rfl, hlow⟩ := hrel
    by_cases hkn : k < n
    · have ka : k < cs.length := by have := LA.out; omega
      obtain ⟨b1, o1, rfl, l1, c0⟩ := HA.out.at chC_len LA.out ka
      have c1 : w.cell? ⟨b1, o1 + k * 4, none⟩ = some (.string cs[k].name) := c0 0 _ rfl
      clear c0
      cases hv : hasName s cs[k]
      · have HN : Hid (k + 1 ≤ idxC cs s) := idxC_step hlow.out ka hv
        have h1 : (cs[k].name.toList == s.toList) = false := hv
        clear hv
        go_wp2_with fail
        go_round
        case rel => exact ⟨k + 1, by omega, by go_num, HN⟩
        case measure => simp [intOf]; omega
      · have HN : Hid (idxZ cs s = (k : Int)) := idxZ_hit hlow.out ka hv
        have h1 : (cs[k].name.toList == s.toList) = true := hv
        clear hv
        go_wp2_with fail
        go_ret
        exact ⟨ret_int (by rw [← hz.out, HN.out]), rfl⟩
    · go_wp2_with fail
      go_ret
      refine ⟨ret_int ?_, rfl⟩
      rw [← hz.out, idxZ_none]
      have := hlow.out
      have := LA.out
      omega
set_option maxHeartbeats 4000000 in
theorem l03Row_any (b : Nat) (A : Option Addr) (n c : Nat) (cs : List Ch) (Ar : Option Addr) (q cr : Nat) (r : List Int) (v : Bool) (w : World) (h0 : w.cell? ⟨b, 0, none⟩ = some (.slice A n c)) (ha : Rd w A n 4 (rowOf chC cs)) (la : cs.length = n) (hn : n ≤ 1048576) (hr : Rd w Ar q 1 (rowOf iC r)) (hq : r.length = q) (hqn : q ≤ 1048576) (hv : v = true ↔ RowOk cs r) :
    Calls Try.prog 40 #[.pointer (some ⟨b, 0, none⟩), .slice Ar q cr] w fun e w' => e = .returned (.bool v) ∧ Below w.heap.size w w' := by
  have hlt : b < w.heap.size := block_lt_of_cell h0
  have HA := Lib.hid ha
  have LA := Lib.hid la
  have HR := Lib.hid hr
  have HQ := Lib.hid hq
  have HV := Lib.hid hv
  clear ha la hr hq hv
  by_cases hlen : q = n
  · subst hlen
    go_enter Try.func40, Try.ntmps40
    go_wp2_with fail
    go_loopw [5] (fun i wr => ∃ j : Nat, j ≤ q ∧ i = .int .i64 (j : Int) ∧ Hid (∀ i, i < j → ∀ (h : i < r.length) (h2 : i < cs.length), inB r[i] cs[i].low cs[i].high = true) ∧ Below w.heap.size w wr) (fun i _ => q - (intOf i).toNat)
    case atStart => exact ⟨0, Nat.zero_le _, rfl, fun j hj => absurd hj (by omega), Below.refl _ _⟩
    case round =>
      obtain ⟨j, hj, rfl, hin, hW⟩ := hrel
      have hWs := hW.size
      have h0r : wr.cell? ⟨b, 0, none⟩ = some (.slice A q c) := (hW.cell (p := ⟨b, 0, none⟩) hlt).trans h0
      have hlr : b < wr.heap.size := by omega
      by_cases hjlt : j < q
      · have kr : j < r.length := by have := HQ.out; omega
        have kc : j < cs.length := by have := LA.out; omega
        obtain ⟨b2, o2, e2, l2, d1'⟩ := (HR.out.below hW).at iC_len HQ.out kr
        have d1 : wr.cell? ⟨b2, o2 + j, none⟩ = some (.int .i64 r[j]) := by simpa using d1' 0 _ rfl
        clear d1'
        obtain ⟨b3, o3, e3, l3, d2'⟩ := (HA.out.below hW).at chC_len LA.out kc
        have d2 : wr.cell? ⟨b3, o3 + j * 4 + 2, none⟩ = some (.int .i64 cs[j].low) := d2' 2 _ rfl
        have d3 : wr.cell? ⟨b3, o3 + j * 4 + 3, none⟩ = some (.int .i64 cs[j].high) := d2' 3 _ rfl
        clear d2'
        rw [e3] at h0r
        have E2 := Lib.hid e2
        have E3 := Lib.hid e3
        rw [e2]
        clear e2 e3
        have hk0 : (0 : Int) ≤ (j : Int) := by omega
        have hkn : (j : Int) < (q : Int) := by omega
        cases hx : inB r[j] cs[j].low cs[j].high
        · have HX2 := Lib.hid hx
          have HN : Hid (¬ RowOk cs r) := rowB_stop kr kc hx
          clear hx
          go_wp2_with fail
          go_quiet ((first | (go_at_call 41; first | with_reducible exact quiet_mine (l00In_v HX2 _) | with_reducible exact quiet_mine2 (l00In_v HX2 _))))
          go_wp2_with fail
          go_ret
          exact ⟨ret_bool (no_of HV.out HN.out).symm, below_drewN hW _⟩
        · have HX2 := Lib.hid hx
          have HM : Hid (∀ i, i < j + 1 → ∀ (h : i < r.length) (h2 : i < cs.length), inB r[i] cs[i].low cs[i].high = true) := more_rows (p := fun i => ∀ (h : i < r.length) (h2 : i < cs.length), inB r[i] cs[i].low cs[i].high = true) hin.out fun _ _ => hx
          clear hx
          go_wp2_with fail
          go_quiet ((first | (go_at_call 41; first | with_reducible exact quiet_mine (l00In_v HX2 _) | with_reducible exact quiet_mine2 (l00In_v HX2 _))))
          go_wp2_with fail
          go_roundw
          case rel => exact ⟨j + 1, by omega, by go_num, HM, below_drewN hW _⟩
          case measure => simp [intOf]; omega
      · have HRow : Hid (RowOk cs r) := ⟨by rw [HQ.out, LA.out], fun i h h2 => hin.out i (by have := HQ.out; omega) h h2⟩
        go_wp2_with fail
        go_ret
        exact ⟨ret_bool (HV.out.2 HRow.out).symm, hW⟩
  · have hlb : decide (q = n) = false := decide_eq_false hlen
    have hlb2 : ((q : Int) != (n : Int)) = true := by simp; omega
    go_enter Try.func40, Try.ntmps40
    go_wp2_with fail
    go_ret
    refine ⟨ret_bool (no_of HV.out fun h => ?_).symm, Below.refl _ _⟩
    have := h.1
    rw [HQ.out, LA.out] at this
    exact hlen this
theorem l03Place_any (b : Nat) (A : Option Addr) (m c b2 o2 : Nat) (n : No) (v : Bool) (w : World) (h1 : w.cell? ⟨b, 1, none⟩ = some (.slice A m c)) (d0 : w.cell? ⟨b2, o2, none⟩ = some (.int .i64 n.fr)) (d1 : w.cell? ⟨b2, o2 + 1, none⟩ = some (.int .i64 n.til)) (hm : m ≤ 1048576) (hv : Hid (noB m n = v)) :
    Calls Try.prog 17 #[.pointer (some ⟨b, 0, none⟩), .pointer (some ⟨b2, o2, none⟩)] w fun e w' => e = .returned (.bool v) ∧ Below w.heap.size w w' := by
  have hl1 : b < w.heap.size := block_lt_of_cell h1
  have hl2 : b2 < w.heap.size := block_lt_of_cell d0
  cases q1 : decide (0 ≤ n.fr)
  · go_enter Try.func17, Try.ntmps17
    go_wp2_with fail
    go_quiet (fail)
    go_wp2_with fail
    go_ret
    exact ⟨ret_bool (by rw [← hv.out]; unfold noB; simp at q1; exact (decide_eq_false (by omega)).symm), below_drewN (Below.refl _ _) _⟩
  · cases q2 : decide (n.fr < n.til)
    · go_enter Try.func17, Try.ntmps17
      go_wp2_with fail
      go_quiet (fail)
      go_wp2_with fail
      go_ret
      exact ⟨ret_bool (by rw [← hv.out]; unfold noB; simp at q2; exact (decide_eq_false (by omega)).symm), below_drewN (Below.refl _ _) _⟩
    · cases q3 : decide (n.til ≤ (m : Int))
      · go_enter Try.func17, Try.ntmps17
        go_wp2_with fail
        go_quiet (fail)
        go_wp2_with fail
        go_ret
        exact ⟨ret_bool (by rw [← hv.out]; unfold noB; simp at q3; exact (decide_eq_false (by omega)).symm), below_drewN (Below.refl _ _) _⟩
      · go_enter Try.func17, Try.ntmps17
        go_wp2_with fail
        go_quiet (fail)
        go_wp2_with fail
        go_ret
        exact ⟨ret_bool (by rw [← hv.out]; unfold noB; simp at q1 q2 q3; exact (decide_eq_true ⟨q1, q2, q3⟩).symm), below_drewN (Below.refl _ _) _⟩
end Go.Proofs.Ytmdmjnhebbhjbaa
namespace Go.Proofs.Ytmdmjnhebbhjbaa
set_option linter.unusedSimpArgs false
set_option linter.unusedVariables false
set_option maxRecDepth 20000
open Go.RowKit
open Go.ChangeShapes Go.WideShapes Go.Deep Go.Joins

/-- a file's three slices in a variable -/
structure FBox (w : World) (b : Nat) (f : Fl) : Prop where
  c0 : w.cell? ⟨b, 0, none⟩ = some (.slice f.ch.A f.ch.l.length f.ch.c)
  c1 : w.cell? ⟨b, 1, none⟩ = some (.slice f.st.A f.st.l.length f.st.c)
  c2 : w.cell? ⟨b, 2, none⟩ = some (.slice f.no.A f.no.l.length f.no.c)
theorem FBox.lt {w : World} {b : Nat} {f : Fl} (h : FBox w b f) : b < w.heap.size := block_lt_of_cell h.c0
theorem FBox.next {w w' : World} {b : Nat} {f : Fl} (h : FBox w b f) (hb : Below w.heap.size w w') : FBox w' b f :=
  ⟨(hb.cell (p := ⟨b, 0, none⟩) h.lt).trans h.c0, (hb.cell (p := ⟨b, 1, none⟩) h.lt).trans h.c1, (hb.cell (p := ⟨b, 2, none⟩) h.lt).trans h.c2⟩
theorem FBox.of_bk {w : World} {b : Nat} {t : TypeId} {f : Fl} (h : Bk w b t #[.slice f.ch.A f.ch.l.length f.ch.c, .slice f.st.A f.st.l.length f.st.c, .slice f.no.A f.no.l.length f.no.c]) : FBox w b f := ⟨h.cell 0, h.cell 1, h.cell 2⟩
set_option maxHeartbeats 8000000 in
theorem l03Ok_any (b : Nat) (f : Fl) (v : Bool) (w : World) (hbx : FBox w b f) (h : FileRd w f) (hs : FileSz f) (ht : PlTx (filePl f)) (hv : v = true ↔ FileOk (filePl f)) :
    Calls Try.prog 16 #[.pointer (some ⟨b, 0, none⟩)] w fun e w' => e = .returned (.bool v) ∧ Below w.heap.size w w' := by
  have hb2 := Lib.hid (hv.trans fileOk_iff)
  have hx1 : ∀ c ∈ f.ch.l, c.name.size ≤ 1048576 ∧ c.unit.size ≤ 1048576 := ht.chs
  have hx2 : ∀ n ∈ f.no.l, n.text.size ≤ 1048576 := ht.nos
  have hbl := hbx.lt
  obtain ⟨q0, q1, q2⟩ := hbx
  obtain ⟨r1, r2, r3⟩ := h
  obtain ⟨z1, z2, z4, _, z3⟩ := hs
  clear hv ht
  obtain ⟨⟨A1, c1, cs⟩, ⟨A2, c2, ss⟩, ⟨A3, c3, ns⟩⟩ := f
  simp only [] at hb2 hx1 hx2 z1 z2 z3 z4 q0 q1 q2 ⊢
  obtain ⟨n1, l1⟩ : ∃ m, cs.length = m := ⟨_, rfl⟩
  obtain ⟨n2, l2⟩ : ∃ m, ss.length = m := ⟨_, rfl⟩
  obtain ⟨n3, l3⟩ : ∃ m, ns.length = m := ⟨_, rfl⟩
  have ra : Rd w A1 cs.length 4 (rowOf chC cs) := r1.1
  have rb : Rd w A2 ss.length 1 (rowOf hdC ss) := r2.1
  have rb2 : ∀ a ∈ ss, rowsK.rd w a := r2.2
  have rc : Rd w A3 ns.length 3 (rowOf noC ns) := r3.1
  have hb3 : Hid (v = true ↔ 1 ≤ n1 ∧ n1 ≤ 6 ∧ n2 ≤ 16 ∧ n3 ≤ 12 ∧ (∀ j, j < n1 → ∀ (h : j < cs.length), chB cs[j] = true ∧ idxZ cs cs[j].name = (j : Int)) ∧ (∀ j, j < n2 → ∀ (h : j < ss.length), StOk cs (rowsK.pl ss[j])) ∧ (∀ j, j < n3 → ∀ (h : j < ns.length), noB n2 ns[j] = true ∧ nameB ns[j].text.data.toList = true)) := by
    subst l1 l2 l3; exact hb2
  clear hb2
  have hb2 := hb3
  clear hb3
  rw [l1] at ra z1 q0
  rw [l2] at rb z2 q1
  rw [l3] at rc z3 q2
  have R1 := Lib.hid ra
  have R2 := Lib.hid rb
  have R22 := Lib.hid rb2
  have R3 := Lib.hid rc
  have L1 := Lib.hid l1
  have L2 := Lib.hid l2
  have L3 := Lib.hid l3
  have X1 := Lib.hid hx1
  have X2 := Lib.hid hx2
  have Z4 := Lib.hid z4
  have Q0 := Lib.hid q0
  have Q1 := Lib.hid q1
  have Q2 := Lib.hid q2
  clear r1 r2 r3 ra rb rb2 rc l1 l2 l3 hx1 hx2 z4
  go_enter Try.func16, Try.ntmps16
  go_wp2_with fail
  clear q0 q1 q2
  go_loopw [3] (fun i wo => ∃ k : Nat, k ≤ n1 ∧ i = .int .i64 (k : Int) ∧ Hid (∀ j, j < k → ∀ (h : j < cs.length), chB cs[j] = true ∧ idxZ cs cs[j].name = (j : Int)) ∧ Below w.heap.size w wo) (fun i _ => n1 - (intOf i).toNat)
  case atStart => exact ⟨0, Nat.zero_le _, rfl, fun j hj => absurd hj (by omega), Below.refl _ _⟩
  case round =>
    obtain ⟨k, hk, rfl, hall, hW⟩ := hrel
    have hWs := hW.size
    have hblr : b < wr.heap.size := by omega
    have q0 : wr.cell? ⟨b, 0, none⟩ = some (.slice A1 n1 c1) := (hW.cell (p := ⟨b, 0, none⟩) hbl).trans Q0.out
    by_cases hlt : k < n1
    · have ka : k < cs.length := by have := L1.out; omega
      obtain ⟨b1, o1, e1, lb, c0⟩ := (R1.out.below hW).at chC_len L1.out ka
      have d1 : wr.cell? ⟨b1, o1 + k * 4, none⟩ = some (.string cs[k].name) := c0 0 _ rfl
      have d2 : wr.cell? ⟨b1, o1 + k * 4 + 1, none⟩ = some (.string cs[k].unit) := c0 1 _ rfl
      have d3 : wr.cell? ⟨b1, o1 + k * 4 + 2, none⟩ = some (.int .i64 cs[k].low) := c0 2 _ rfl
      have d4 : wr.cell? ⟨b1, o1 + k * 4 + 3, none⟩ = some (.int .i64 cs[k].high) := c0 3 _ rfl
      clear c0
      have E1 := Lib.hid e1
      rw [e1] at q0
      clear e1
      have hsz := X1.out _ (List.getElem_mem ka)
      have hk0 : (0 : Int) ≤ (k : Int) := by omega
      have hkn : (k : Int) < (n1 : Int) := by omega
      cases hv : chB cs[k]
      · have HV := Lib.hid hv
        clear hv
        go_wp2_with fail
        refine (l03Channel_any b1 (o1 + k * 4) cs[k] false _ d1 d2 d3 d4 hsz HV).mono ?_
        rintro e w2 ⟨rfl, hb3⟩
        have hW2 := Below.next hW hb3
        clear hb3
        go_wp2_with fail
        go_ret
        refine ⟨ret_bool (no_of hb2.out fun h => ?_).symm, hW2⟩
        have := (h.2.2.2.2.1 k hlt ka).1
        rw [HV.out] at this
        exact absurd this (by simp)
      · have HV := Lib.hid hv
        clear hv
        obtain ⟨z, hz⟩ : ∃ z, idxZ cs cs[k].name = z := ⟨_, rfl⟩
        have HZ := Lib.hid hz
        clear hz
        cases hq : (z != (k : Int))
        · have hzk : z = (k : Int) := by simpa using hq
          have HM : Hid (∀ j, j < k + 1 → ∀ (h : j < cs.length), chB cs[j] = true ∧ idxZ cs cs[j].name = (j : Int)) := more_rows (p := fun j => ∀ (h : j < cs.length), chB cs[j] = true ∧ idxZ cs cs[j].name = (j : Int)) hall.out fun h => ⟨HV.out, by rw [← hzk]; exact HZ.out⟩
          clear hzk
          go_wp2_with fail
          refine (l03Channel_any b1 (o1 + k * 4) cs[k] true _ d1 d2 d3 d4 hsz HV).mono ?_
          rintro e w2 ⟨rfl, hb3⟩
          have hW2 := Below.next hW hb3
          have hz3 := hb3.size
          have q0' : w2.cell? ⟨b, 0, none⟩ = some (.slice (some ⟨b1, o1, none⟩) n1 c1) := (hb3.cell (p := ⟨b, 0, none⟩) hblr).trans q0
          have d1' : w2.cell? ⟨b1, o1 + k * 4, none⟩ = some (.string cs[k].name) := (hb3.cell (p := ⟨b1, o1 + k * 4, none⟩) lb).trans d1
          have hbl2 : b < w2.heap.size := by omega
          have lb2 : b1 < w2.heap.size := by omega
          clear hb3
          go_wp2_with fail
          refine (l03Find_any b A1 n1 c1 cs cs[k].name z _ (by rw [E1.out]; exact q0') (R1.out.below hW2) L1.out z1 HZ).mono ?_
          rintro e w3 ⟨rfl, rfl⟩
          go_wp2_with fail
          go_roundw
          case rel => exact ⟨k + 1, by omega, by go_num, HM, hW2⟩
          case measure => simp [intOf]; omega
        · have HQ : Hid (¬ z = (k : Int)) := by simpa [Hid] using hq
          go_wp2_with fail
          refine (l03Channel_any b1 (o1 + k * 4) cs[k] true _ d1 d2 d3 d4 hsz HV).mono ?_
          rintro e w2 ⟨rfl, hb3⟩
          have hW2 := Below.next hW hb3
          have hz3 := hb3.size
          have q0' : w2.cell? ⟨b, 0, none⟩ = some (.slice (some ⟨b1, o1, none⟩) n1 c1) := (hb3.cell (p := ⟨b, 0, none⟩) hblr).trans q0
          have d1' : w2.cell? ⟨b1, o1 + k * 4, none⟩ = some (.string cs[k].name) := (hb3.cell (p := ⟨b1, o1 + k * 4, none⟩) lb).trans d1
          have hbl2 : b < w2.heap.size := by omega
          have lb2 : b1 < w2.heap.size := by omega
          clear hb3
          go_wp2_with fail
          refine (l03Find_any b A1 n1 c1 cs cs[k].name z _ (by rw [E1.out]; exact q0') (R1.out.below hW2) L1.out z1 HZ).mono ?_
          rintro e w3 ⟨rfl, rfl⟩
          go_wp2_with fail
          go_ret
          refine ⟨ret_bool (no_of hb2.out fun h => HQ.out ?_).symm, hW2⟩
          have := (h.2.2.2.2.1 k hlt ka).2
          rw [HZ.out] at this
          exact this
    · have HC : Hid (∀ j, j < n1 → ∀ (h : j < cs.length), chB cs[j] = true ∧ idxZ cs cs[j].name = (j : Int)) := fun j hj => hall.out j (by omega)
      have q1 : wr.cell? ⟨b, 1, none⟩ = some (.slice A2 n2 c2) := (hW.cell (p := ⟨b, 1, none⟩) hbl).trans Q1.out
      obtain ⟨wb, rfl⟩ : ∃ wb, wb = wr := ⟨wr, rfl⟩
      go_wp2_with fail
      go_loopw [4] (fun i wo => ∃ k : Nat, k ≤ n2 ∧ i = .int .i64 (k : Int) ∧ Hid (∀ j, j < k → ∀ (h : j < ss.length), StOk cs (rowsK.pl ss[j])) ∧ Below w.heap.size w wo) (fun i _ => n2 - (intOf i).toNat)
      case atStart => exact ⟨0, Nat.zero_le _, rfl, fun j hj => absurd hj (by omega), hW⟩
      case round =>
        clear hall hW q0 q1 hWs hlt hk hblr
        obtain ⟨k, hk, rfl, hall, hW⟩ := hrel
        have hWs := hW.size
        have hblr : b < wr.heap.size := by omega
        have q1 : wr.cell? ⟨b, 1, none⟩ = some (.slice A2 n2 c2) := (hW.cell (p := ⟨b, 1, none⟩) hbl).trans Q1.out
        by_cases hlt : k < n2
        · have ka : k < ss.length := by have := L2.out; omega
          obtain ⟨b1, o1, e1, lb, c0⟩ := (R2.out.below hW).at hdC_len L2.out ka
          have d1 : wr.cell? ⟨b1, o1 + k, none⟩ = some (.slice ss[k].A ss[k].l.length ss[k].c) := by simpa [Sl.val] using c0 0 _ rfl
          clear c0
          have E1 := Lib.hid e1
          rw [e1] at q1
          clear e1
          have hsz := Z4.out _ (List.getElem_mem ka)
          obtain ⟨u, hu⟩ := bool_of (StOk cs (rowsK.pl ss[k]))
          have hst := Lib.hid (hu.trans stOk_iff)
          have hrd := rowsK_ok.below (R22.out _ (List.getElem_mem ka)) hW
          obtain ⟨Ar, cr, l, hr⟩ : ∃ Ar cr l, ss[k] = ⟨Ar, cr, l⟩ := ⟨ss[k].A, ss[k].c, ss[k].l, rfl⟩
          have HU : Hid (u = true ↔ StOk cs (rowsK.pl ss[k])) := hu
          rw [hr] at hrd hsz d1
          have hst2 : Hid (u = true ↔ 1 ≤ l.length ∧ l.length ≤ 60 ∧ ∀ j (h : j < l.length), RowOk cs l[j].l) := by rw [hr] at hst; exact hst
          simp only [] at hsz d1
          obtain ⟨m, lm⟩ : ∃ m, l.length = m := ⟨_, rfl⟩
          have rm : Rd wr Ar l.length 1 (rowOf hdC l) := hrd.1
          have rm2 : ∀ a ∈ l, rowK.rd wr a := hrd.2
          have hsz1 := hsz.1
          rw [lm] at rm d1 hsz1
          have hst3 : Hid (u = true ↔ 1 ≤ m ∧ m ≤ 60 ∧ ∀ j (h : j < l.length), RowOk cs l[j].l) := by subst lm; exact hst2
          have RM := Lib.hid rm
          have RM2 := Lib.hid rm2
          have LM := Lib.hid lm
          have HS2 := Lib.hid hsz.2.1
          have HSZ1 := Lib.hid hsz1
          clear hu hst hst2 hr hrd hsz rm rm2 lm
          have hk0 : (0 : Int) ≤ (k : Int) := by omega
          have hkn : (k : Int) < (n2 : Int) := by omega
          obtain ⟨wo, rfl⟩ : ∃ wo, wo = wr := ⟨wr, rfl⟩
          go_wp2_with fail
          go_loopw [6] (fun i wr => ∃ j : Nat, j ≤ m ∧ i = .int .i64 (j : Int) ∧ Hid (∀ i, i < j → ∀ (h : i < l.length), RowOk cs l[i].l) ∧ Below wo.heap.size wo wr) (fun i _ => m - (intOf i).toNat)
          case atStart => exact ⟨0, Nat.zero_le _, rfl, fun j hj => absurd hj (by omega), Below.refl _ _⟩
          case round =>
            obtain ⟨j, hj, rfl, hin, hWr⟩ := hrel
            have hWrs := hWr.size
            have hblw : b < wr.heap.size := by omega
            have hW2 : Below w.heap.size w wr := hW.trans (hWr.mono (by omega))
            have q0 : wr.cell? ⟨b, 0, none⟩ = some (.slice A1 n1 c1) := (hW2.cell (p := ⟨b, 0, none⟩) hbl).trans Q0.out
            by_cases hjlt : j < m
            · have kr : j < l.length := by have := LM.out; omega
              obtain ⟨b2, o2, rfl, l2, f0⟩ := (RM.out.below hWr).at hdC_len LM.out kr
              have f1 : wr.cell? ⟨b2, o2 + j, none⟩ = some (.slice l[j].A l[j].l.length l[j].c) := by simpa [Sl.val] using f0 0 _ rfl
              clear f0
              have hrow : Rd wr l[j].A l[j].l.length 1 (rowOf iC l[j].l) := (rowK_ok.below (RM2.out _ (List.getElem_mem kr)) hWr).1
              have hrl := HS2.out _ (List.getElem_mem kr)
              obtain ⟨y, hy⟩ := bool_of (RowOk cs l[j].l)
              have hj0 : (0 : Int) ≤ (j : Int) := by omega
              have hjn : (j : Int) < (m : Int) := by omega
              go_wp2_with fail
              refine (l03Row_any b A1 n1 c1 cs l[j].A l[j].l.length l[j].c l[j].l y _ q0 (R1.out.below hW2) L1.out z1 hrow rfl hrl hy).mono ?_
              rintro e w3 ⟨rfl, hb4⟩
              have hW3 := Below.next hWr hb4
              clear hb4
              cases y
              · go_wp2_with fail
                go_ret
                refine ⟨ret_bool (no_of hb2.out fun h => ?_).symm, hW.trans (hW3.mono (by omega))⟩
                exact absurd (hy.2 ((hst3.out.1 (HU.out.2 (h.2.2.2.2.2.1 k hlt ka))).2.2 j kr)) (by simp)
              · have HM : Hid (∀ i, i < j + 1 → ∀ (h : i < l.length), RowOk cs l[i].l) := more_rows (p := fun i => ∀ (h : i < l.length), RowOk cs l[i].l) hin.out fun _ => hy.1 rfl
                go_wp2_with fail
                go_roundw
                case rel => exact ⟨j + 1, by omega, by go_num, HM, hW3⟩
                case measure => simp [intOf]; omega
            · cases hx : inB (m : Int) 1 60
              · have HX := Lib.hid hx
                clear hx
                go_wp2_with (first | (go_at_call 41; refine (l00In_v HX _).mono ?_; rintro e w' ⟨rfl, rfl⟩))
                go_ret
                refine ⟨ret_bool (no_of hb2.out fun h => ?_).symm, hW2⟩
                have h1 := hst3.out.1 (HU.out.2 (h.2.2.2.2.2.1 k hlt ka))
                have h2 := inB_false HX.out
                omega
              · have HX := Lib.hid hx
                clear hx
                have HU2 : Hid (StOk cs (rowsK.pl ss[k])) := by
                  have h2 := inB_true HX.out
                  exact HU.out.1 (hst3.out.2 ⟨by omega, by omega, fun i h => hin.out i (by have := LM.out; omega) h⟩)
                have HM : Hid (∀ j, j < k + 1 → ∀ (h : j < ss.length), StOk cs (rowsK.pl ss[j])) := more_rows (p := fun j => ∀ (h : j < ss.length), StOk cs (rowsK.pl ss[j])) hall.out fun _ => HU2.out
                go_wp2_with (first | (go_at_call 41; refine (l00In_v HX _).mono ?_; rintro e w' ⟨rfl, rfl⟩))
                go_roundw
                case rel => exact ⟨k + 1, by omega, by go_num, HM, hW2⟩
                case measure => simp [intOf]; omega
        · have HS : Hid (∀ j, j < n2 → ∀ (h : j < ss.length), StOk cs (rowsK.pl ss[j])) := fun j hj => hall.out j (by omega)
          obtain ⟨wc, rfl⟩ : ∃ wc, wc = wr := ⟨wr, rfl⟩
          go_wp2_with fail
          go_loopw [7] (fun i wo => ∃ k : Nat, k ≤ n3 ∧ i = .int .i64 (k : Int) ∧ Hid (∀ j, j < k → ∀ (h : j < ns.length), noB n2 ns[j] = true ∧ nameB ns[j].text.data.toList = true) ∧ Below w.heap.size w wo) (fun i _ => n3 - (intOf i).toNat)
          case atStart => exact ⟨0, Nat.zero_le _, rfl, fun j hj => absurd hj (by omega), hW⟩
          case round =>
            clear hall hW q1 hWs hlt hk hblr
            obtain ⟨k, hk, rfl, hall, hW⟩ := hrel
            have hWs := hW.size
            have hblr : b < wr.heap.size := by omega
            have q1 : wr.cell? ⟨b, 1, none⟩ = some (.slice A2 n2 c2) := (hW.cell (p := ⟨b, 1, none⟩) hbl).trans Q1.out
            have q2 : wr.cell? ⟨b, 2, none⟩ = some (.slice A3 n3 c3) := (hW.cell (p := ⟨b, 2, none⟩) hbl).trans Q2.out
            by_cases hlt : k < n3
            · have ka : k < ns.length := by have := L3.out; omega
              obtain ⟨b1, o1, e1, lb, c0⟩ := (R3.out.below hW).at noC_len L3.out ka
              have d1 : wr.cell? ⟨b1, o1 + k * 3, none⟩ = some (.int .i64 ns[k].fr) := c0 0 _ rfl
              have d2 : wr.cell? ⟨b1, o1 + k * 3 + 1, none⟩ = some (.int .i64 ns[k].til) := c0 1 _ rfl
              have d3 : wr.cell? ⟨b1, o1 + k * 3 + 2, none⟩ = some (.string ns[k].text) := c0 2 _ rfl
              clear c0
              rw [e1] at q2
              clear e1
              have hsz := X2.out _ (List.getElem_mem ka)
              have hk0 : (0 : Int) ≤ (k : Int) := by omega
              have hkn : (k : Int) < (n3 : Int) := by omega
              cases hv : noB n2 ns[k]
              · have HV := Lib.hid hv
                clear hv
                go_wp2_with fail
                refine (l03Place_any b A2 n2 c2 b1 (o1 + k * 3) ns[k] false _ q1 d1 d2 z2 HV).mono ?_
                rintro e w2 ⟨rfl, hb3⟩
                have hW2 := Below.next hW hb3
                clear hb3
                go_wp2_with fail
                go_ret
                refine ⟨ret_bool (no_of hb2.out fun h => ?_).symm, hW2⟩
                have := (h.2.2.2.2.2.2 k hlt ka).1
                rw [HV.out] at this
                exact absurd this (by simp)
              · have HV := Lib.hid hv
                clear hv
                cases hq : nameB ns[k].text.data.toList
                · have HQ := Lib.hid hq
                  clear hq
                  go_wp2_with fail
                  refine (l03Place_any b A2 n2 c2 b1 (o1 + k * 3) ns[k] true _ q1 d1 d2 z2 HV).mono ?_
                  rintro e w2 ⟨rfl, hb3⟩
                  have hW2 := Below.next hW hb3
                  have hz3 := hb3.size
                  have q2' : w2.cell? ⟨b, 2, none⟩ = some (.slice (some ⟨b1, o1, none⟩) n3 c3) := (hb3.cell (p := ⟨b, 2, none⟩) hblr).trans q2
                  have d3' : w2.cell? ⟨b1, o1 + k * 3 + 2, none⟩ = some (.string ns[k].text) := (hb3.cell (p := ⟨b1, o1 + k * 3 + 2, none⟩) lb).trans d3
                  have hbl2 : b < w2.heap.size := by omega
                  have lb2 : b1 < w2.heap.size := by omega
                  clear hb3
                  go_wp2_with (first | (go_at_call 18; refine (sIsName_is HQ hsz _).mono ?_; rintro e w' ⟨rfl, rfl⟩))
                  go_ret
                  refine ⟨ret_bool (no_of hb2.out fun h => ?_).symm, hW2⟩
                  have := (h.2.2.2.2.2.2 k hlt ka).2
                  rw [HQ.out] at this
                  exact absurd this (by simp)
                · have HQ := Lib.hid hq
                  clear hq
                  have HM : Hid (∀ j, j < k + 1 → ∀ (h : j < ns.length), noB n2 ns[j] = true ∧ nameB ns[j].text.data.toList = true) := more_rows (p := fun j => ∀ (h : j < ns.length), noB n2 ns[j] = true ∧ nameB ns[j].text.data.toList = true) hall.out fun _ => ⟨HV.out, HQ.out⟩
                  go_wp2_with fail
                  refine (l03Place_any b A2 n2 c2 b1 (o1 + k * 3) ns[k] true _ q1 d1 d2 z2 HV).mono ?_
                  rintro e w2 ⟨rfl, hb3⟩
                  have hW2 := Below.next hW hb3
                  have hz3 := hb3.size
                  have q2' : w2.cell? ⟨b, 2, none⟩ = some (.slice (some ⟨b1, o1, none⟩) n3 c3) := (hb3.cell (p := ⟨b, 2, none⟩) hblr).trans q2
                  have d3' : w2.cell? ⟨b1, o1 + k * 3 + 2, none⟩ = some (.string ns[k].text) := (hb3.cell (p := ⟨b1, o1 + k * 3 + 2, none⟩) lb).trans d3
                  have hbl2 : b < w2.heap.size := by omega
                  have lb2 : b1 < w2.heap.size := by omega
                  clear hb3
                  go_wp2_with (first | (go_at_call 18; refine (sIsName_is HQ hsz _).mono ?_; rintro e w' ⟨rfl, rfl⟩))
                  go_roundw
                  case rel => exact ⟨k + 1, by omega, by go_num, HM, hW2⟩
                  case measure => simp [intOf]; omega
            · have HNo : Hid (∀ j, j < n3 → ∀ (h : j < ns.length), noB n2 ns[j] = true ∧ nameB ns[j].text.data.toList = true) := fun j hj => hall.out j (by omega)
              have q0 : wr.cell? ⟨b, 0, none⟩ = some (.slice A1 n1 c1) := (hW.cell (p := ⟨b, 0, none⟩) hbl).trans Q0.out
              cases hx : inB (n1 : Int) 1 6
              · have HX := Lib.hid hx
                clear hx
                go_wp2_with (first | (go_at_call 41; refine (l00In_v HX _).mono ?_; rintro e w' ⟨rfl, rfl⟩))
                go_ret
                refine ⟨ret_bool (no_of hb2.out fun h => ?_).symm, hW⟩
                have h2 := inB_false HX.out
                omega
              · have HX := Lib.hid hx
                clear hx
                cases h3 : decide ((n2 : Int) ≤ 16)
                · go_wp2_with (first | (go_at_call 41; refine (l00In_v HX _).mono ?_; rintro e w' ⟨rfl, rfl⟩))
                  go_ret
                  refine ⟨ret_bool (no_of hb2.out fun h => ?_).symm, hW⟩
                  simp at h3
                  omega
                · cases h4 : decide ((n3 : Int) ≤ 12)
                  · go_wp2_with (first | (go_at_call 41; refine (l00In_v HX _).mono ?_; rintro e w' ⟨rfl, rfl⟩))
                    go_ret
                    refine ⟨ret_bool (no_of hb2.out fun h => ?_).symm, hW⟩
                    simp at h4
                    omega
                  · go_wp2_with (first | (go_at_call 41; refine (l00In_v HX _).mono ?_; rintro e w' ⟨rfl, rfl⟩))
                    go_ret
                    have h2 := inB_true HX.out
                    simp at h3 h4
                    exact ⟨ret_bool (hb2.out.2 ⟨by omega, by omega, by omega, by omega, HC.out, HS.out, HNo.out⟩).symm, hW⟩
end Go.Proofs.Ytmdmjnhebbhjbaa
