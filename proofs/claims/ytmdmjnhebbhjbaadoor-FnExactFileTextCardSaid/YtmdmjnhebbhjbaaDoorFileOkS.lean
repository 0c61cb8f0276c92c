/-
  The reference's test of a file, its parts.
-/
import Derived.Test.YtmdmjnhebbhjbaaDoorFileOkV
namespace Go.Proofs.YtmdmjnhebbhjbaaDoor
set_option linter.unusedSimpArgs false
set_option linter.unusedVariables false
set_option maxRecDepth 20000
open Go.RowKit
open Go.ChangeShapes Go.WideShapes Go.Deep Go.Joins

theorem sIsName_is {s : ByteArray} {v : Bool} (h : Hid (nameB s.data.toList = v)) (hs : s.size ≤ 1048576) (w : World) :
    Calls Tryd.prog 33 #[.string s] w fun e w' => e = .returned (.bool v) ∧ w = w' := by rw [← h.out]; exact sIsName s w hs
theorem l00In_v {n low high : Int} {b : Bool} (h : Hid (inB n low high = b)) (w : World) :
    Calls Tryd.prog 31 #[.int .i64 n, .int .i64 low, .int .i64 high] w fun e w' => e = .returned (.bool b) ∧ w = w' := by
  rw [← h.out]; exact l00In_any n low high w
theorem l03Value_v {n : Int} {b : Bool} (h : Hid (inB n (-1000000000) 1000000000 = b)) (w : World) :
    Calls Tryd.prog 51 #[.int .i64 n] w fun e w' => e = .returned (.bool b) ∧ w = w' := by
  go_enter Tryd.func51, Tryd.ntmps51
  go_wp2_with ((go_at_call 31; refine (l00In_v h _).mono ?_; rintro e w' ⟨rfl, rfl⟩))
  go_ret
  exact ⟨rfl, rfl⟩
set_option maxHeartbeats 4000000 in
theorem l03Channel_any (b o : Nat) (c : Ch) (v : Bool) (w : World) (d0 : w.cell? ⟨b, o, none⟩ = some (.string c.name)) (d1 : w.cell? ⟨b, o + 1, none⟩ = some (.string c.unit)) (d2 : w.cell? ⟨b, o + 2, none⟩ = some (.int .i64 c.low)) (d3 : w.cell? ⟨b, o + 3, none⟩ = some (.int .i64 c.high)) (hs : c.name.size ≤ 1048576 ∧ c.unit.size ≤ 1048576) (hv : Hid (chB c = v)) :
    Calls Tryd.prog 28 #[.pointer (some ⟨b, o, none⟩)] w fun e w' => e = .returned (.bool v) ∧ Below w.heap.size w w' := by
  obtain ⟨s1, s2⟩ := hs
  have hlt : b < w.heap.size := block_lt_of_cell d0
  cases h1 : nameB c.name.data.toList
  · have H1 := Lib.hid h1
    clear h1
    go_enter Tryd.func28, Tryd.ntmps28
    go_wp2_with fail
    go_quiet ((first | (go_at_call 33; first | with_reducible exact quiet_mine (sIsName_is H1 s1 _) | with_reducible exact quiet_mine2 (sIsName_is H1 s1 _))))
    go_wp2_with fail
    go_ret
    exact ⟨ret_bool (by rw [← hv.out]; unfold chB; rw [H1.out]; rfl), below_drewN (Below.refl _ _) _⟩
  · have H1 := Lib.hid h1
    clear h1
    cases h2 : nameB c.unit.data.toList
    · have H2 := Lib.hid h2
      clear h2
      go_enter Tryd.func28, Tryd.ntmps28
      go_wp2_with fail
      go_quiet ((first | (go_at_call 33; first | with_reducible exact quiet_mine (sIsName_is H1 s1 _) | with_reducible exact quiet_mine2 (sIsName_is H1 s1 _)) | (go_at_call 33; first | with_reducible exact quiet_mine (sIsName_is H2 s2 _) | with_reducible exact quiet_mine2 (sIsName_is H2 s2 _))))
      go_wp2_with fail
      go_ret
      exact ⟨ret_bool (by rw [← hv.out]; unfold chB; rw [H1.out, H2.out]; rfl), below_drewN (Below.refl _ _) _⟩
    · have H2 := Lib.hid h2
      clear h2
      cases h3 : inB c.low (-1000000000) 1000000000
      · have H3 := Lib.hid h3
        clear h3
        go_enter Tryd.func28, Tryd.ntmps28
        go_wp2_with fail
        go_quiet ((first | (go_at_call 33; first | with_reducible exact quiet_mine (sIsName_is H1 s1 _) | with_reducible exact quiet_mine2 (sIsName_is H1 s1 _)) | (go_at_call 33; first | with_reducible exact quiet_mine (sIsName_is H2 s2 _) | with_reducible exact quiet_mine2 (sIsName_is H2 s2 _)) | (go_at_call 51; first | with_reducible exact quiet_mine (l03Value_v H3 _) | with_reducible exact quiet_mine2 (l03Value_v H3 _))))
        go_wp2_with fail
        go_ret
        exact ⟨ret_bool (by rw [← hv.out]; unfold chB; rw [H1.out, H2.out, H3.out]; rfl), below_drewN (Below.refl _ _) _⟩
      · have H3 := Lib.hid h3
        clear h3
        cases h4 : inB c.high (-1000000000) 1000000000
        · have H4 := Lib.hid h4
          clear h4
          go_enter Tryd.func28, Tryd.ntmps28
          go_wp2_with fail
          go_quiet ((first | (go_at_call 33; first | with_reducible exact quiet_mine (sIsName_is H1 s1 _) | with_reducible exact quiet_mine2 (sIsName_is H1 s1 _)) | (go_at_call 33; first | with_reducible exact quiet_mine (sIsName_is H2 s2 _) | with_reducible exact quiet_mine2 (sIsName_is H2 s2 _)) | (go_at_call 51; first | with_reducible exact quiet_mine (l03Value_v H3 _) | with_reducible exact quiet_mine2 (l03Value_v H3 _)) | (go_at_call 51; first | with_reducible exact quiet_mine (l03Value_v H4 _) | with_reducible exact quiet_mine2 (l03Value_v H4 _))))
          go_wp2_with fail
          go_ret
          exact ⟨ret_bool (by rw [← hv.out]; unfold chB; rw [H1.out, H2.out, H3.out, H4.out]; rfl), below_drewN (Below.refl _ _) _⟩
        · have H4 := Lib.hid h4
          clear h4
          cases h5 : decide (c.low < c.high)
          · have H5 := Lib.hid h5
            go_enter Tryd.func28, Tryd.ntmps28
            go_wp2_with fail
            go_quiet ((first | (go_at_call 33; first | with_reducible exact quiet_mine (sIsName_is H1 s1 _) | with_reducible exact quiet_mine2 (sIsName_is H1 s1 _)) | (go_at_call 33; first | with_reducible exact quiet_mine (sIsName_is H2 s2 _) | with_reducible exact quiet_mine2 (sIsName_is H2 s2 _)) | (go_at_call 51; first | with_reducible exact quiet_mine (l03Value_v H3 _) | with_reducible exact quiet_mine2 (l03Value_v H3 _)) | (go_at_call 51; first | with_reducible exact quiet_mine (l03Value_v H4 _) | with_reducible exact quiet_mine2 (l03Value_v H4 _))))
            go_wp2_with fail
            go_ret
            exact ⟨ret_bool (by rw [← hv.out]; unfold chB; rw [H1.out, H2.out, H3.out, H4.out, H5.out]; rfl), below_drewN (Below.refl _ _) _⟩
          · have H5 := Lib.hid h5
            go_enter Tryd.func28, Tryd.ntmps28
            go_wp2_with fail
            go_quiet ((first | (go_at_call 33; first | with_reducible exact quiet_mine (sIsName_is H1 s1 _) | with_reducible exact quiet_mine2 (sIsName_is H1 s1 _)) | (go_at_call 33; first | with_reducible exact quiet_mine (sIsName_is H2 s2 _) | with_reducible exact quiet_mine2 (sIsName_is H2 s2 _)) | (go_at_call 51; first | with_reducible exact quiet_mine (l03Value_v H3 _) | with_reducible exact quiet_mine2 (l03Value_v H3 _)) | (go_at_call 51; first | with_reducible exact quiet_mine (l03Value_v H4 _) | with_reducible exact quiet_mine2 (l03Value_v H4 _))))
            go_wp2_with fail
            go_ret
            exact ⟨ret_bool (by rw [← hv.out]; unfold chB; rw [H1.out, H2.out, H3.out, H4.out, H5.out]; rfl), below_drewN (Below.refl _ _) _⟩

set_option maxHeartbeats 4000000 in
theorem l03Find_any (b : Nat) (A : Option Addr) (n c : Nat) (cs : List Ch) (s : ByteArray) (z : Int) (w : World) (h0 : w.cell? ⟨b, 0, none⟩ = some (.slice A n c)) (ha : Rd w A n 4 (rowOf chC cs)) (la : cs.length = n) (hn : n ≤ 1048576) (hz : Hid (idxZ cs s = z)) :
    Calls Tryd.prog 29 #[.pointer (some ⟨b, 0, none⟩), .string s] w fun e w' => e = .returned (.int .i64 z) ∧ w = w' := by
  have hlt : b < w.heap.size := block_lt_of_cell h0
  have HA := Lib.hid ha
  have LA := Lib.hid la
  clear ha la
  go_enter Tryd.func29, Tryd.ntmps29
  go_wp2_with fail
  go_loop [5] (fun i => ∃ k : Nat, k ≤ n ∧ i = .int .i64 (k : Int) ∧ Hid (k ≤ idxC cs s)) (fun i => n - (intOf i).toNat)
  case atStart => exact ⟨0, Nat.zero_le _, rfl, Nat.zero_le _⟩
  case round =>
    obtain ⟨k, hk, rfl, hlow⟩ := hrel
    by_cases hkn : k < n
    · have ka : k < cs.length := by have := LA.out; omega
      obtain ⟨b1, o1, rfl, l1, c0⟩ := HA.out.at chC_len LA.out ka
      have c1 : w.cell? ⟨b1, o1 + k * 4, none⟩ = some (.string cs[k].name) := c0 0 _ rfl
      clear c0
      cases hv : hasName s cs[k]
      · have HN : Hid (k + 1 ≤ idxC cs s) := idxC_step hlow.out ka hv
        have h1 : (cs[k].name.toList == s.toList) = false := hv
        clear hv
        go_wp2_with fail
        go_round
        case rel => exact ⟨k + 1, by omega, by go_num, HN⟩
        case measure => simp [intOf]; omega
      · have HN : Hid (idxZ cs s = (k : Int)) := idxZ_hit hlow.out ka hv
        have h1 : (cs[k].name.toList == s.toList) = true := hv
        clear hv
        go_wp2_with fail
        go_ret
        exact ⟨ret_int (by rw [← hz.out, HN.out]), rfl⟩
    · go_wp2_with fail
      go_ret
      refine ⟨ret_int ?_, rfl⟩
      rw [← hz.out, idxZ_none]
      have := hlow.out
      have := LA.out
      omega
set_option maxHeartbeats 4000000 in
theorem l03Row_any (b : Nat) (A : Option Addr) (n c : Nat) (cs : List Ch) (Ar : Option Addr) (q cr : Nat) (r : List Int) (v : Bool) (w : World) (h0 : w.cell? ⟨b, 0, none⟩ = some (.slice A n c)) (ha : Rd w A n 4 (rowOf chC cs)) (la : cs.length = n) (hn : n ≤ 1048576) (hr : Rd w Ar q 1 (rowOf iC r)) (hq : r.length = q) (hqn : q ≤ 1048576) (hv : v = true ↔ RowOk cs r) :
    Calls Tryd.prog 30 #[.pointer (some ⟨b, 0, none⟩), .slice Ar q cr] w fun e w' => e = .returned (.bool v) ∧ Below w.heap.size w w' := by
  have hlt : b < w.heap.size := block_lt_of_cell h0
  have HA := Lib.hid ha
  have LA := Lib.hid la
  have HR := Lib.hid hr
  have HQ := Lib.hid hq
  have HV := Lib.hid hv
  clear ha la hr hq hv
  by_cases hlen : q = n
  · subst hlen
    go_enter Tryd.func30, Tryd.ntmps30
    go_wp2_with fail
    go_loopw [5] (fun i wr => ∃ j : Nat, j ≤ q ∧ i = .int .i64 (j : Int) ∧ Hid (∀ i, i < j → ∀ (h : i < r.length) (h2 : i < cs.length), inB r[i] cs[i].low cs[i].high = true) ∧ Below w.heap.size w wr) (fun i _ => q - (intOf i).toNat)
    case atStart => exact ⟨0, Nat.zero_le _, rfl, fun j hj => absurd hj (by omega), Below.refl _ _⟩
    case round =>
      obtain ⟨j, hj, rfl, hin, hW⟩ := hrel
      have hWs := hW.size
      have h0r : wr.cell? ⟨b, 0, none⟩ = some (.slice A q c) := (hW.cell (p := ⟨b, 0, none⟩) hlt).trans h0
      have hlr : b < wr.heap.size := by omega
      by_cases hjlt : j < q
      · have kr : j < r.length := by have := HQ.out; omega
        have kc : j < cs.length := by have := LA.out; omega
        obtain ⟨b2, o2, e2, l2, d1'⟩ := (HR.out.below hW).at iC_len HQ.out kr
        have d1 : wr.cell? ⟨b2, o2 + j, none⟩ = some (.int .i64 r[j]) := by simpa using d1' 0 _ rfl
        clear d1'
        obtain ⟨b3, o3, e3, l3, d2'⟩ := (HA.out.below hW).at chC_len LA.out kc
        have d2 : wr.cell? ⟨b3, o3 + j * 4 + 2, none⟩ = some (.int .i64 cs[j].low) := d2' 2 _ rfl
        have d3 : wr.cell? ⟨b3, o3 + j * 4 + 3, none⟩ = some (.int .i64 cs[j].high) := d2' 3 _ rfl
        clear d2'
        rw [e3] at h0r
        have E2 := Lib.hid e2
        have E3 := Lib.hid e3
        rw [e2]
        clear e2 e3
        have hk0 : (0 : Int) ≤ (j : Int) := by omega
        have hkn : (j : Int) < (q : Int) := by omega
        cases hx : inB r[j] cs[j].low cs[j].high
        · have HX2 := Lib.hid hx
          have HN : Hid (¬ RowOk cs r) := rowB_stop kr kc hx
          clear hx
          go_wp2_with fail
          go_quiet ((first | (go_at_call 31; first | with_reducible exact quiet_mine (l00In_v HX2 _) | with_reducible exact quiet_mine2 (l00In_v HX2 _))))
          go_wp2_with fail
          go_ret
          exact ⟨ret_bool (no_of HV.out HN.out).symm, below_drewN hW _⟩
        · have HX2 := Lib.hid hx
          have HM : Hid (∀ i, i < j + 1 → ∀ (h : i < r.length) (h2 : i < cs.length), inB r[i] cs[i].low cs[i].high = true) := more_rows (p := fun i => ∀ (h : i < r.length) (h2 : i < cs.length), inB r[i] cs[i].low cs[i].high = true) hin.out fun _ _ => hx
          clear hx
          go_wp2_with fail
          go_quiet ((first | (go_at_call 31; first | with_reducible exact quiet_mine (l00In_v HX2 _) | with_reducible exact quiet_mine2 (l00In_v HX2 _))))
          go_wp2_with fail
          go_roundw
          case rel => exact ⟨j + 1, by omega, by go_num, HM, below_drewN hW _⟩
          case measure => simp [intOf]; omega
      · have HRow : Hid (RowOk cs r) := ⟨by rw [HQ.out, LA.out], fun i h h2 => hin.out i (by have := HQ.out; omega) h h2⟩
        go_wp2_with fail
        go_ret
        exact ⟨ret_bool (HV.out.2 HRow.out).symm, hW⟩
  · have hlb : decide (q = n) = false := decide_eq_false hlen
    have hlb2 : ((q : Int) != (n : Int)) = true := by simp; omega
    go_enter Tryd.func30, Tryd.ntmps30
    go_wp2_with fail
    go_ret
    refine ⟨ret_bool (no_of HV.out fun h => ?_).symm, Below.refl _ _⟩
    have := h.1
    rw [HQ.out, LA.out] at this
    exact hlen this
theorem l03Place_any (b : Nat) (A : Option Addr) (m c b2 o2 : Nat) (n : No) (v : Bool) (w : World) (h1 : w.cell? ⟨b, 1, none⟩ = some (.slice A m c)) (d0 : w.cell? ⟨b2, o2, none⟩ = some (.int .i64 n.fr)) (d1 : w.cell? ⟨b2, o2 + 1, none⟩ = some (.int .i64 n.til)) (hm : m ≤ 1048576) (hv : Hid (noB m n = v)) :
    Calls Tryd.prog 32 #[.pointer (some ⟨b, 0, none⟩), .pointer (some ⟨b2, o2, none⟩)] w fun e w' => e = .returned (.bool v) ∧ Below w.heap.size w w' := by
  have hl1 : b < w.heap.size := block_lt_of_cell h1
  have hl2 : b2 < w.heap.size := block_lt_of_cell d0
  cases q1 : decide (0 ≤ n.fr)
  · go_enter Tryd.func32, Tryd.ntmps32
    go_wp2_with fail
    go_quiet (fail)
    go_wp2_with fail
    go_ret
    exact ⟨ret_bool (by rw [← hv.out]; unfold noB; simp at q1; exact (decide_eq_false (by omega)).symm), below_drewN (Below.refl _ _) _⟩
  · cases q2 : decide (n.fr < n.til)
    · go_enter Tryd.func32, Tryd.ntmps32
      go_wp2_with fail
      go_quiet (fail)
      go_wp2_with fail
      go_ret
      exact ⟨ret_bool (by rw [← hv.out]; unfold noB; simp at q2; exact (decide_eq_false (by omega)).symm), below_drewN (Below.refl _ _) _⟩
    · cases q3 : decide (n.til ≤ (m : Int))
      · go_enter Tryd.func32, Tryd.ntmps32
        go_wp2_with fail
        go_quiet (fail)
        go_wp2_with fail
        go_ret
        exact ⟨ret_bool (by rw [← hv.out]; unfold noB; simp at q3; exact (decide_eq_false (by omega)).symm), below_drewN (Below.refl _ _) _⟩
      · go_enter Tryd.func32, Tryd.ntmps32
        go_wp2_with fail
        go_quiet (fail)
        go_wp2_with fail
        go_ret
        exact ⟨ret_bool (by rw [← hv.out]; unfold noB; simp at q1 q2 q3; exact (decide_eq_true ⟨q1, q2, q3⟩).symm), below_drewN (Below.refl _ _) _⟩
end Go.Proofs.YtmdmjnhebbhjbaaDoor
