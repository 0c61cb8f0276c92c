/-
  The program's test of a file, its parts: a channel, the rows of a stroke, a note.
-/
import Derived.Test.YtmdmjnhebbhjbaaDoorFileOkI
namespace Go.Proofs.YtmdmjnhebbhjbaaDoor
set_option linter.unusedSimpArgs false
set_option linter.unusedVariables false
set_option maxRecDepth 20000
open Go.RowKit
open Go.ChangeShapes Go.WideShapes Go.Deep Go.Joins

set_option maxHeartbeats 4000000 in
theorem validCh_any (c : Ch) (v : Bool) (w : World) (hs : c.name.size ≤ 1048576 ∧ c.unit.size ≤ 1048576) (hv : Hid (chB c = v)) :
    Calls Tryd.prog 39 #[.agg #[.string c.name, .string c.unit, .int .i64 c.low, .int .i64 c.high]] w fun e w' => e = .returned (.bool v) ∧ Below w.heap.size w w' := by
  obtain ⟨s1, s2⟩ := hs
  have HK : Hid (Bk (w.alloc (.cells #[.string c.name, .string c.unit, .int .i64 c.low, .int .i64 c.high] 52)) w.heap.size 52 #[.string c.name, .string c.unit, .int .i64 c.low, .int .i64 c.high]) := Bk.new w _ _
  cases h1 : nameB c.name.data.toList
  · have H1 := Lib.hid h1
    clear h1
    go_enter Tryd.func39, Tryd.ntmps39
    go_wp2_with fail
    refine (iIsName_is H1 s1 _).mono ?_
    rintro e w2 ⟨rfl, hb2⟩
    have K2 := HK.out.next hb2
    have B2 : Below w.heap.size w w2 := Below.next (by go_grown) hb2
    clear hb2
    have c0 : w2.cell? ⟨w.heap.size, 0, none⟩ = some (.string c.name) := K2.cell 0
    have c1 : w2.cell? ⟨w.heap.size, 1, none⟩ = some (.string c.unit) := K2.cell 1
    have c2 : w2.cell? ⟨w.heap.size, 2, none⟩ = some (.int .i64 c.low) := K2.cell 2
    have c3 : w2.cell? ⟨w.heap.size, 3, none⟩ = some (.int .i64 c.high) := K2.cell 3
    have HK2 := Lib.hid K2
    clear K2
    go_wp2_with fail
    go_ret
    exact ⟨ret_bool (by rw [← hv.out]; unfold chB; rw [H1.out]; rfl), B2⟩
  · have H1 := Lib.hid h1
    clear h1
    cases h2 : nameB c.unit.data.toList
    · have H2 := Lib.hid h2
      clear h2
      go_enter Tryd.func39, Tryd.ntmps39
      go_wp2_with fail
      refine (iIsName_is H1 s1 _).mono ?_
      rintro e w2 ⟨rfl, hb2⟩
      have K2 := HK.out.next hb2
      have B2 : Below w.heap.size w w2 := Below.next (by go_grown) hb2
      clear hb2
      have c0 : w2.cell? ⟨w.heap.size, 0, none⟩ = some (.string c.name) := K2.cell 0
      have c1 : w2.cell? ⟨w.heap.size, 1, none⟩ = some (.string c.unit) := K2.cell 1
      have c2 : w2.cell? ⟨w.heap.size, 2, none⟩ = some (.int .i64 c.low) := K2.cell 2
      have c3 : w2.cell? ⟨w.heap.size, 3, none⟩ = some (.int .i64 c.high) := K2.cell 3
      have HK2 := Lib.hid K2
      clear K2
      go_wp2_with fail
      clear c0 c1 c2 c3
      refine (iIsName_is H2 s2 _).mono ?_
      rintro e w3 ⟨rfl, hb3⟩
      have K3 := HK2.out.next hb3
      have B3 : Below w.heap.size w w3 := Below.next B2 hb3
      clear hb3
      have c0 : w3.cell? ⟨w.heap.size, 0, none⟩ = some (.string c.name) := K3.cell 0
      have c1 : w3.cell? ⟨w.heap.size, 1, none⟩ = some (.string c.unit) := K3.cell 1
      have c2 : w3.cell? ⟨w.heap.size, 2, none⟩ = some (.int .i64 c.low) := K3.cell 2
      have c3 : w3.cell? ⟨w.heap.size, 3, none⟩ = some (.int .i64 c.high) := K3.cell 3
      clear K3
      go_wp2_with (fail)
      go_ret
      exact ⟨ret_bool (by rw [← hv.out]; unfold chB; rw [H1.out, H2.out]; rfl), B3⟩
    · have H2 := Lib.hid h2
      clear h2
      cases h3 : inB c.low (-1000000000) 1000000000
      · have H3 := Lib.hid h3
        clear h3
        go_enter Tryd.func39, Tryd.ntmps39
        go_wp2_with fail
        refine (iIsName_is H1 s1 _).mono ?_
        rintro e w2 ⟨rfl, hb2⟩
        have K2 := HK.out.next hb2
        have B2 : Below w.heap.size w w2 := Below.next (by go_grown) hb2
        clear hb2
        have c0 : w2.cell? ⟨w.heap.size, 0, none⟩ = some (.string c.name) := K2.cell 0
        have c1 : w2.cell? ⟨w.heap.size, 1, none⟩ = some (.string c.unit) := K2.cell 1
        have c2 : w2.cell? ⟨w.heap.size, 2, none⟩ = some (.int .i64 c.low) := K2.cell 2
        have c3 : w2.cell? ⟨w.heap.size, 3, none⟩ = some (.int .i64 c.high) := K2.cell 3
        have HK2 := Lib.hid K2
        clear K2
        go_wp2_with fail
        clear c0 c1 c2 c3
        refine (iIsName_is H2 s2 _).mono ?_
        rintro e w3 ⟨rfl, hb3⟩
        have K3 := HK2.out.next hb3
        have B3 : Below w.heap.size w w3 := Below.next B2 hb3
        clear hb3
        have c0 : w3.cell? ⟨w.heap.size, 0, none⟩ = some (.string c.name) := K3.cell 0
        have c1 : w3.cell? ⟨w.heap.size, 1, none⟩ = some (.string c.unit) := K3.cell 1
        have c2 : w3.cell? ⟨w.heap.size, 2, none⟩ = some (.int .i64 c.low) := K3.cell 2
        have c3 : w3.cell? ⟨w.heap.size, 3, none⟩ = some (.int .i64 c.high) := K3.cell 3
        clear K3
        go_wp2_with (first | (go_at_call 55; (with_reducible refine (within_v H3 _).mono ?_); rintro e w' ⟨rfl, rfl⟩))
        go_ret
        exact ⟨ret_bool (by rw [← hv.out]; unfold chB; rw [H1.out, H2.out, H3.out]; rfl), B3⟩
      · have H3 := Lib.hid h3
        clear h3
        cases h4 : inB c.high (-1000000000) 1000000000
        · have H4 := Lib.hid h4
          clear h4
          go_enter Tryd.func39, Tryd.ntmps39
          go_wp2_with fail
          refine (iIsName_is H1 s1 _).mono ?_
          rintro e w2 ⟨rfl, hb2⟩
          have K2 := HK.out.next hb2
          have B2 : Below w.heap.size w w2 := Below.next (by go_grown) hb2
          clear hb2
          have c0 : w2.cell? ⟨w.heap.size, 0, none⟩ = some (.string c.name) := K2.cell 0
          have c1 : w2.cell? ⟨w.heap.size, 1, none⟩ = some (.string c.unit) := K2.cell 1
          have c2 : w2.cell? ⟨w.heap.size, 2, none⟩ = some (.int .i64 c.low) := K2.cell 2
          have c3 : w2.cell? ⟨w.heap.size, 3, none⟩ = some (.int .i64 c.high) := K2.cell 3
          have HK2 := Lib.hid K2
          clear K2
          go_wp2_with fail
          clear c0 c1 c2 c3
          refine (iIsName_is H2 s2 _).mono ?_
          rintro e w3 ⟨rfl, hb3⟩
          have K3 := HK2.out.next hb3
          have B3 : Below w.heap.size w w3 := Below.next B2 hb3
          clear hb3
          have c0 : w3.cell? ⟨w.heap.size, 0, none⟩ = some (.string c.name) := K3.cell 0
          have c1 : w3.cell? ⟨w.heap.size, 1, none⟩ = some (.string c.unit) := K3.cell 1
          have c2 : w3.cell? ⟨w.heap.size, 2, none⟩ = some (.int .i64 c.low) := K3.cell 2
          have c3 : w3.cell? ⟨w.heap.size, 3, none⟩ = some (.int .i64 c.high) := K3.cell 3
          clear K3
          go_wp2_with (first | (go_at_call 55; (with_reducible refine (within_v H3 _).mono ?_); rintro e w' ⟨rfl, rfl⟩) | (go_at_call 55; (with_reducible refine (within_v H4 _).mono ?_); rintro e w' ⟨rfl, rfl⟩))
          go_ret
          exact ⟨ret_bool (by rw [← hv.out]; unfold chB; rw [H1.out, H2.out, H3.out, H4.out]; rfl), B3⟩
        · have H4 := Lib.hid h4
          clear h4
          cases h5 : decide (c.low < c.high)
          · have H5 := Lib.hid h5
            go_enter Tryd.func39, Tryd.ntmps39
            go_wp2_with fail
            refine (iIsName_is H1 s1 _).mono ?_
            rintro e w2 ⟨rfl, hb2⟩
            have K2 := HK.out.next hb2
            have B2 : Below w.heap.size w w2 := Below.next (by go_grown) hb2
            clear hb2
            have c0 : w2.cell? ⟨w.heap.size, 0, none⟩ = some (.string c.name) := K2.cell 0
            have c1 : w2.cell? ⟨w.heap.size, 1, none⟩ = some (.string c.unit) := K2.cell 1
            have c2 : w2.cell? ⟨w.heap.size, 2, none⟩ = some (.int .i64 c.low) := K2.cell 2
            have c3 : w2.cell? ⟨w.heap.size, 3, none⟩ = some (.int .i64 c.high) := K2.cell 3
            have HK2 := Lib.hid K2
            clear K2
            go_wp2_with fail
            clear c0 c1 c2 c3
            refine (iIsName_is H2 s2 _).mono ?_
            rintro e w3 ⟨rfl, hb3⟩
            have K3 := HK2.out.next hb3
            have B3 : Below w.heap.size w w3 := Below.next B2 hb3
            clear hb3
            have c0 : w3.cell? ⟨w.heap.size, 0, none⟩ = some (.string c.name) := K3.cell 0
            have c1 : w3.cell? ⟨w.heap.size, 1, none⟩ = some (.string c.unit) := K3.cell 1
            have c2 : w3.cell? ⟨w.heap.size, 2, none⟩ = some (.int .i64 c.low) := K3.cell 2
            have c3 : w3.cell? ⟨w.heap.size, 3, none⟩ = some (.int .i64 c.high) := K3.cell 3
            clear K3
            go_wp2_with (first | (go_at_call 55; (with_reducible refine (within_v H3 _).mono ?_); rintro e w' ⟨rfl, rfl⟩) | (go_at_call 55; (with_reducible refine (within_v H4 _).mono ?_); rintro e w' ⟨rfl, rfl⟩))
            go_ret
            exact ⟨ret_bool (by rw [← hv.out]; unfold chB; rw [H1.out, H2.out, H3.out, H4.out, H5.out]; rfl), B3⟩
          · have H5 := Lib.hid h5
            go_enter Tryd.func39, Tryd.ntmps39
            go_wp2_with fail
            refine (iIsName_is H1 s1 _).mono ?_
            rintro e w2 ⟨rfl, hb2⟩
            have K2 := HK.out.next hb2
            have B2 : Below w.heap.size w w2 := Below.next (by go_grown) hb2
            clear hb2
            have c0 : w2.cell? ⟨w.heap.size, 0, none⟩ = some (.string c.name) := K2.cell 0
            have c1 : w2.cell? ⟨w.heap.size, 1, none⟩ = some (.string c.unit) := K2.cell 1
            have c2 : w2.cell? ⟨w.heap.size, 2, none⟩ = some (.int .i64 c.low) := K2.cell 2
            have c3 : w2.cell? ⟨w.heap.size, 3, none⟩ = some (.int .i64 c.high) := K2.cell 3
            have HK2 := Lib.hid K2
            clear K2
            go_wp2_with fail
            clear c0 c1 c2 c3
            refine (iIsName_is H2 s2 _).mono ?_
            rintro e w3 ⟨rfl, hb3⟩
            have K3 := HK2.out.next hb3
            have B3 : Below w.heap.size w w3 := Below.next B2 hb3
            clear hb3
            have c0 : w3.cell? ⟨w.heap.size, 0, none⟩ = some (.string c.name) := K3.cell 0
            have c1 : w3.cell? ⟨w.heap.size, 1, none⟩ = some (.string c.unit) := K3.cell 1
            have c2 : w3.cell? ⟨w.heap.size, 2, none⟩ = some (.int .i64 c.low) := K3.cell 2
            have c3 : w3.cell? ⟨w.heap.size, 3, none⟩ = some (.int .i64 c.high) := K3.cell 3
            clear K3
            go_wp2_with (first | (go_at_call 55; (with_reducible refine (within_v H3 _).mono ?_); rintro e w' ⟨rfl, rfl⟩) | (go_at_call 55; (with_reducible refine (within_v H4 _).mono ?_); rintro e w' ⟨rfl, rfl⟩))
            go_ret
            exact ⟨ret_bool (by rw [← hv.out]; unfold chB; rw [H1.out, H2.out, H3.out, H4.out, H5.out]; rfl), B3⟩

theorem no_of {b : Bool} {p : Prop} (h : b = true ↔ p) (hn : ¬ p) : b = false := by
  cases b
  · rfl
  · exact absurd (h.1 rfl) hn
theorem bool_of (p : Prop) : ∃ b : Bool, b = true ↔ p := by
  by_cases h : p
  · exact ⟨true, by simp [h]⟩
  · exact ⟨false, by simp [h]⟩
theorem stOk_iff {cs : List Ch} {s : Sl (Sl Int)} : StOk cs (rowsK.pl s) ↔ 1 ≤ s.l.length ∧ s.l.length ≤ 60 ∧ ∀ j (h : j < s.l.length), RowOk cs s.l[j].l := by
  have e : rowsK.pl s = s.l.map rowK.pl := rfl
  constructor
  · intro h
    have h1 := h.lo
    have h2 := h.hi
    rw [e, List.length_map] at h1 h2
    refine ⟨h1, h2, fun j hj => ?_⟩
    have h3 := h.rows (rowK.pl s.l[j]) (by rw [e]; exact List.mem_map_of_mem (List.getElem_mem hj))
    rwa [rowK_pl] at h3
  · rintro ⟨h1, h2, h3⟩
    refine ⟨by rw [e, List.length_map]; exact h1, by rw [e, List.length_map]; exact h2, fun r hr => ?_⟩
    rw [e] at hr
    obtain ⟨q, hq, rfl⟩ := List.mem_map.1 hr
    obtain ⟨j, hj, rfl⟩ := List.mem_iff_getElem.1 hq
    rw [rowK_pl]
    exact h3 j hj
theorem more_rows {p : (j : Nat) → Prop} {k : Nat} (h : ∀ j, j < k → p j) (hk : p k) : ∀ j, j < k + 1 → p j := fun j hj => by
  rcases Nat.lt_or_eq_of_le (Nat.le_of_lt_succ hj) with h1 | h1
  · exact h j h1
  · rw [h1]; exact hk
set_option maxHeartbeats 8000000 in
theorem validRows_any (s : Sl (Sl Int)) (A : Option Addr) (n c : Nat) (cs : List Ch) (b : Bool) (w : World) (hs : rowsK.rd w s) (hsn : s.l.length ≤ 1048576) (hse : ∀ r ∈ s.l, r.l.length ≤ 1048576) (ha : Rd w A n 4 (rowOf chC cs)) (la : cs.length = n) (hn : n ≤ 1048576) (hb : b = true ↔ StOk cs (rowsK.pl s)) :
    Calls Tryd.prog 41 #[.agg #[.slice s.A s.l.length s.c], .slice A n c] w fun e w' => e = .returned (.bool b) ∧ Below w.heap.size w w' := by
  have hb2 : Hid (b = true ↔ 1 ≤ s.l.length ∧ s.l.length ≤ 60 ∧ ∀ j (h : j < s.l.length), RowOk cs s.l[j].l) := hb.trans stOk_iff
  clear hb
  obtain ⟨A0, c0, l⟩ := s
  simp only [] at hb2 hsn hse ⊢
  obtain ⟨m, ll⟩ : ∃ m, l.length = m := ⟨_, rfl⟩
  have h1 : Rd w A0 l.length 1 (rowOf hdC l) := hs.1
  have h2 : ∀ a ∈ l, rowK.rd w a := hs.2
  rw [ll] at h1 hsn
  rw [ll]
  have LL := Lib.hid ll
  have HA := Lib.hid ha
  have LA := Lib.hid la
  have HL := Lib.hid h1
  have HX := Lib.hid h2
  have HE := Lib.hid hse
  have HK : Hid (Bk (w.alloc (.cells #[.slice A0 m c0] 60)) w.heap.size 60 #[.slice A0 m c0]) := Bk.new w _ _
  clear hs ll ha la h1 h2 hse
  go_enter Tryd.func41, Tryd.ntmps41
  go_wp2_with fail
  go_loopw [12] (fun i wo => ∃ k : Nat, k ≤ m ∧ i = .int .i64 (k : Int) ∧ Hid (∀ j, j < k → ∀ (h : j < l.length), RowOk cs l[j].l) ∧ Hid (Bk wo w.heap.size 60 #[.slice A0 m c0]) ∧ Below w.heap.size w wo) (fun i _ => m - (intOf i).toNat)
  case atStart => exact ⟨0, Nat.zero_le _, rfl, fun j hj => absurd hj (by omega), HK.out, by go_grown⟩
  case round =>
    obtain ⟨wo, rfl⟩ : ∃ wo, wo = wr := ⟨wr, rfl⟩
    obtain ⟨k, hk, rfl, hall, hbk, hW⟩ := hrel
    have hWs := hW.size
    by_cases hlt : k < m
    · have ka : k < l.length := by have := LL.out; omega
      obtain ⟨b1, o1, rfl, l1, c1'⟩ := (HL.out.below hW).at hdC_len LL.out ka
      have c1 : wo.cell? ⟨b1, o1 + k, none⟩ = some (.slice l[k].A l[k].l.length l[k].c) := by simpa [Sl.val] using c1' 0 _ rfl
      clear c1'
      have hrow : Rd wo l[k].A l[k].l.length 1 (rowOf iC l[k].l) := (rowK_ok.below (HX.out _ (List.getElem_mem ka)) hW).1
      have hrl := HE.out _ (List.getElem_mem ka)
      obtain ⟨Ar, cr, r, hr⟩ : ∃ Ar cr r, l[k] = ⟨Ar, cr, r⟩ := ⟨l[k].A, l[k].c, l[k].l, rfl⟩
      have HRK : Hid (∀ (h : k < l.length), l[k].l = r) := fun _ => by rw [hr]
      rw [hr] at hrow hrl c1
      simp only [] at hrow hrl c1
      obtain ⟨q, hq⟩ : ∃ q, r.length = q := ⟨_, rfl⟩
      rw [hq] at hrow hrl c1
      have HR := Lib.hid hrow
      have HQ := Lib.hid hq
      clear hr hrow hq
      by_cases hlen : q = n
      · subst hlen
        go_wp2_with fail
        go_loopw [23] (fun i wr => ∃ j : Nat, j ≤ q ∧ i = .int .i64 (j : Int) ∧ Hid (∀ i, i < j → ∀ (h : i < r.length) (h2 : i < cs.length), inB r[i] cs[i].low cs[i].high = true) ∧ Below wo.heap.size wo wr) (fun i _ => q - (intOf i).toNat)
        case atStart => exact ⟨0, Nat.zero_le _, rfl, fun j hj => absurd hj (by omega), Below.refl _ _⟩
        case round =>
          obtain ⟨j, hj, rfl, hin, hWr⟩ := hrel
          have hWrs := hWr.size
          by_cases hjlt : j < q
          · have kr : j < r.length := by have := HQ.out; omega
            have kc : j < cs.length := by have := LA.out; omega
            obtain ⟨b2, o2, e2, l2, d1'⟩ := (HR.out.below hWr).at iC_len HQ.out kr
            have d1 : wr.cell? ⟨b2, o2 + j, none⟩ = some (.int .i64 r[j]) := by simpa using d1' 0 _ rfl
            clear d1'
            obtain ⟨b3, o3, e3, l3, d2'⟩ := ((HA.out.below hW).below hWr).at chC_len LA.out kc
            have d2 : wr.cell? ⟨b3, o3 + j * 4 + 2, none⟩ = some (.int .i64 cs[j].low) := d2' 2 _ rfl
            have d3 : wr.cell? ⟨b3, o3 + j * 4 + 3, none⟩ = some (.int .i64 cs[j].high) := d2' 3 _ rfl
            clear d2'
            have E2 := Lib.hid e2
            have E3 := Lib.hid e3
            rw [e2, e3]
            clear e2 e3
            have hk0 : (0 : Int) ≤ (j : Int) := by omega
            have hkn : (j : Int) < (q : Int) := by omega
            cases hx : inB r[j] cs[j].low cs[j].high
            · have HX2 := Lib.hid hx
              have HN : Hid (¬ RowOk cs r) := rowB_stop kr kc hx
              clear hx
              go_wp2_with fail
              go_quiet ((first | (go_at_call 55; first | with_reducible exact quiet_mine (within_v HX2 _) | with_reducible exact quiet_mine2 (within_v HX2 _))))
              go_wp2_with fail
              go_ret
              refine ⟨ret_bool (no_of hb2.out fun h => HN.out ?_).symm, below_drewN (hW.trans (hWr.mono (by omega))) _⟩
              have := h.2.2 k ka
              rw [HRK.out] at this
              exact this
            · have HX2 := Lib.hid hx
              have HM : Hid (∀ i, i < j + 1 → ∀ (h : i < r.length) (h2 : i < cs.length), inB r[i] cs[i].low cs[i].high = true) := more_rows (p := fun i => ∀ (h : i < r.length) (h2 : i < cs.length), inB r[i] cs[i].low cs[i].high = true) hin.out fun _ _ => hx
              clear hx
              go_wp2_with fail
              go_quiet ((first | (go_at_call 55; first | with_reducible exact quiet_mine (within_v HX2 _) | with_reducible exact quiet_mine2 (within_v HX2 _))))
              go_wp2_with fail
              go_roundw
              case rel => exact ⟨j + 1, by omega, by go_num, HM, below_drewN hWr _⟩
              case measure => simp [intOf]; omega
          · have HRow : Hid (RowOk cs r) := ⟨by rw [HQ.out, LA.out], fun i h h2 => hin.out i (by have := HQ.out; omega) h h2⟩
            go_wp2_with fail
            go_roundw
            case rel =>
              refine ⟨k + 1, by omega, by go_num, more_rows (p := fun j => ∀ (h : j < l.length), RowOk cs l[j].l) hall.out fun h => by rw [HRK.out]; exact HRow.out, hbk.out.next hWr, hW.trans (hWr.mono (by omega))⟩
            case measure => simp [intOf]; omega
      · have hlb : decide (q = n) = false := decide_eq_false hlen
        have hlb2 : ((q : Int) != (n : Int)) = true := by simp; omega
        go_wp2_with fail
        go_ret
        refine ⟨ret_bool (no_of hb2.out fun h => ?_).symm, hW⟩
        have := (h.2.2 k ka).1
        rw [HRK.out, HQ.out, LA.out] at this
        exact hlen this
    · obtain ⟨e0, f0⟩ := bk1 hbk.out
      have HALL : Hid (∀ j (h : j < l.length), RowOk cs l[j].l) := fun j h => hall.out j (by have := LL.out; omega) h
      by_cases h1 : 1 ≤ m
      · by_cases h60 : m ≤ 60
        · go_wp2_with fail
          go_ret
          exact ⟨ret_bool (by rw [hb2.out.2 ⟨by rw [LL.out]; exact h1, by rw [LL.out]; exact h60, HALL.out⟩]; exact decide_eq_true (by omega)), hW⟩
        · go_wp2_with fail
          go_ret
          exact ⟨ret_bool (by rw [no_of hb2.out fun h => h60 (by rw [← LL.out]; exact h.2.1)]; exact decide_eq_false (by omega)), hW⟩
      · go_wp2_with fail
        go_ret
        exact ⟨ret_bool (no_of hb2.out fun h => h1 (by rw [← LL.out]; exact h.1)).symm, hW⟩
theorem noted_any (v0 v2 : Value) (A : Option Addr) (m c : Nat) (n : No) (v : Bool) (w : World) (hm : m ≤ 1048576) (hv : Hid (noB m n = v)) :
    Calls Tryd.prog 42 #[.agg #[v0, .slice A m c, v2], .agg #[.int .i64 n.fr, .int .i64 n.til, .string n.text]] w fun e w' => e = .returned (.bool v) ∧ Below w.heap.size w w' := by
  by_cases h1 : 0 ≤ n.fr
  · by_cases h2 : n.fr < n.til
    · by_cases h3 : n.til ≤ (m : Int)
      · go_enter Tryd.func42, Tryd.ntmps42
        go_wp2_with fail
        go_ret
        exact ⟨ret_bool (by rw [← hv.out]; unfold noB; rw [decide_eq_true ⟨h1, h2, h3⟩]), by go_grown⟩
      · go_enter Tryd.func42, Tryd.ntmps42
        go_wp2_with fail
        go_ret
        exact ⟨ret_bool (by rw [← hv.out]; unfold noB; exact (decide_eq_false (by omega)).symm), by go_grown⟩
    · go_enter Tryd.func42, Tryd.ntmps42
      go_wp2_with fail
      go_ret
      exact ⟨ret_bool (by rw [← hv.out]; unfold noB; exact (decide_eq_false (by omega)).symm), by go_grown⟩
  · go_enter Tryd.func42, Tryd.ntmps42
    go_wp2_with fail
    go_ret
    exact ⟨ret_bool (by rw [← hv.out]; unfold noB; exact (decide_eq_false (by omega)).symm), by go_grown⟩
end Go.Proofs.YtmdmjnhebbhjbaaDoor
