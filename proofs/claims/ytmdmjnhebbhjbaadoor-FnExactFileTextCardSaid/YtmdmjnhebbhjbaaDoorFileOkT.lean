/-
  The reference's test of a file.
-/
import Derived.Test.YtmdmjnhebbhjbaaDoorFileOkS
namespace Go.Proofs.YtmdmjnhebbhjbaaDoor
set_option linter.unusedSimpArgs false
set_option linter.unusedVariables false
set_option maxRecDepth 20000
open Go.RowKit
open Go.ChangeShapes Go.WideShapes Go.Deep Go.Joins

/-- a file's three slices in a variable -/
structure FBox (w : World) (b : Nat) (f : Fl) : Prop where
  c0 : w.cell? ⟨b, 0, none⟩ = some (.slice f.ch.A f.ch.l.length f.ch.c)
  c1 : w.cell? ⟨b, 1, none⟩ = some (.slice f.st.A f.st.l.length f.st.c)
  c2 : w.cell? ⟨b, 2, none⟩ = some (.slice f.no.A f.no.l.length f.no.c)
theorem FBox.lt {w : World} {b : Nat} {f : Fl} (h : FBox w b f) : b < w.heap.size := block_lt_of_cell h.c0
theorem FBox.next {w w' : World} {b : Nat} {f : Fl} (h : FBox w b f) (hb : Below w.heap.size w w') : FBox w' b f :=
  ⟨(hb.cell (p := ⟨b, 0, none⟩) h.lt).trans h.c0, (hb.cell (p := ⟨b, 1, none⟩) h.lt).trans h.c1, (hb.cell (p := ⟨b, 2, none⟩) h.lt).trans h.c2⟩
theorem FBox.of_bk {w : World} {b : Nat} {t : TypeId} {f : Fl} (h : Bk w b t #[.slice f.ch.A f.ch.l.length f.ch.c, .slice f.st.A f.st.l.length f.st.c, .slice f.no.A f.no.l.length f.no.c]) : FBox w b f := ⟨h.cell 0, h.cell 1, h.cell 2⟩
set_option maxHeartbeats 8000000 in
theorem l03Ok_any (b : Nat) (f : Fl) (v : Bool) (w : World) (hbx : FBox w b f) (h : FileRd w f) (hs : FileSz f) (ht : PlTx (filePl f)) (hv : v = true ↔ FileOk (filePl f)) :
    Calls Tryd.prog 12 #[.pointer (some ⟨b, 0, none⟩)] w fun e w' => e = .returned (.bool v) ∧ Below w.heap.size w w' := by
  have hb2 := Lib.hid (hv.trans fileOk_iff)
  have hx1 : ∀ c ∈ f.ch.l, c.name.size ≤ 1048576 ∧ c.unit.size ≤ 1048576 := ht.chs
  have hx2 : ∀ n ∈ f.no.l, n.text.size ≤ 1048576 := ht.nos
  have hbl := hbx.lt
  obtain ⟨q0, q1, q2⟩ := hbx
  obtain ⟨r1, r2, r3⟩ := h
  obtain ⟨z1, z2, z4, _, z3⟩ := hs
  clear hv ht
  obtain ⟨⟨A1, c1, cs⟩, ⟨A2, c2, ss⟩, ⟨A3, c3, ns⟩⟩ := f
  simp only [] at hb2 hx1 hx2 z1 z2 z3 z4 q0 q1 q2 ⊢
  obtain ⟨n1, l1⟩ : ∃ m, cs.length = m := ⟨_, rfl⟩
  obtain ⟨n2, l2⟩ : ∃ m, ss.length = m := ⟨_, rfl⟩
  obtain ⟨n3, l3⟩ : ∃ m, ns.length = m := ⟨_, rfl⟩
  have ra : Rd w A1 cs.length 4 (rowOf chC cs) := r1.1
  have rb : Rd w A2 ss.length 1 (rowOf hdC ss) := r2.1
  have rb2 : ∀ a ∈ ss, rowsK.rd w a := r2.2
  have rc : Rd w A3 ns.length 3 (rowOf noC ns) := r3.1
  have hb3 : Hid (v = true ↔ 1 ≤ n1 ∧ n1 ≤ 6 ∧ n2 ≤ 16 ∧ n3 ≤ 12 ∧ (∀ j, j < n1 → ∀ (h : j < cs.length), chB cs[j] = true ∧ idxZ cs cs[j].name = (j : Int)) ∧ (∀ j, j < n2 → ∀ (h : j < ss.length), StOk cs (rowsK.pl ss[j])) ∧ (∀ j, j < n3 → ∀ (h : j < ns.length), noB n2 ns[j] = true ∧ nameB ns[j].text.data.toList = true)) := by
    subst l1 l2 l3; exact hb2
  clear hb2
  have hb2 := hb3
  clear hb3
  rw [l1] at ra z1 q0
  rw [l2] at rb z2 q1
  rw [l3] at rc z3 q2
  have R1 := Lib.hid ra
  have R2 := Lib.hid rb
  have R22 := Lib.hid rb2
  have R3 := Lib.hid rc
  have L1 := Lib.hid l1
  have L2 := Lib.hid l2
  have L3 := Lib.hid l3
  have X1 := Lib.hid hx1
  have X2 := Lib.hid hx2
  have Z4 := Lib.hid z4
  have Q0 := Lib.hid q0
  have Q1 := Lib.hid q1
  have Q2 := Lib.hid q2
  clear r1 r2 r3 ra rb rb2 rc l1 l2 l3 hx1 hx2 z4
  go_enter Tryd.func12, Tryd.ntmps12
  go_wp2_with fail
  clear q0 q1 q2
  go_loopw [3] (fun i wo => ∃ k : Nat, k ≤ n1 ∧ i = .int .i64 (k : Int) ∧ Hid (∀ j, j < k → ∀ (h : j < cs.length), chB cs[j] = true ∧ idxZ cs cs[j].name = (j : Int)) ∧ Below w.heap.size w wo) (fun i _ => n1 - (intOf i).toNat)
  case atStart => exact ⟨0, Nat.zero_le _, rfl, fun j hj => absurd hj (by omega), Below.refl _ _⟩
  case round =>
    obtain ⟨k, hk, rfl, hall, hW⟩ := hrel
    have hWs := hW.size
    have hblr : b < wr.heap.size := by omega
    have q0 : wr.cell? ⟨b, 0, none⟩ = some (.slice A1 n1 c1) := (hW.cell (p := ⟨b, 0, none⟩) hbl).trans Q0.out
    by_cases hlt : k < n1
    · have ka : k < cs.length := by have := L1.out; omega
      obtain ⟨b1, o1, e1, lb, c0⟩ := (R1.out.below hW).at chC_len L1.out ka
      have d1 : wr.cell? ⟨b1, o1 + k * 4, none⟩ = some (.string cs[k].name) := c0 0 _ rfl
      have d2 : wr.cell? ⟨b1, o1 + k * 4 + 1, none⟩ = some (.string cs[k].unit) := c0 1 _ rfl
      have d3 : wr.cell? ⟨b1, o1 + k * 4 + 2, none⟩ = some (.int .i64 cs[k].low) := c0 2 _ rfl
      have d4 : wr.cell? ⟨b1, o1 + k * 4 + 3, none⟩ = some (.int .i64 cs[k].high) := c0 3 _ rfl
      clear c0
      have E1 := Lib.hid e1
      rw [e1] at q0
      clear e1
      have hsz := X1.out _ (List.getElem_mem ka)
      have hk0 : (0 : Int) ≤ (k : Int) := by omega
      have hkn : (k : Int) < (n1 : Int) := by omega
      cases hv : chB cs[k]
      · have HV := Lib.hid hv
        clear hv
        go_wp2_with fail
        refine (l03Channel_any b1 (o1 + k * 4) cs[k] false _ d1 d2 d3 d4 hsz HV).mono ?_
        rintro e w2 ⟨rfl, hb3⟩
        have hW2 := Below.next hW hb3
        clear hb3
        go_wp2_with fail
        go_ret
        refine ⟨ret_bool (no_of hb2.out fun h => ?_).symm, hW2⟩
        have := (h.2.2.2.2.1 k hlt ka).1
        rw [HV.out] at this
        exact absurd this (by simp)
      · have HV := Lib.hid hv
        clear hv
        obtain ⟨z, hz⟩ : ∃ z, idxZ cs cs[k].name = z := ⟨_, rfl⟩
        have HZ := Lib.hid hz
        clear hz
        cases hq : (z != (k : Int))
        · have hzk : z = (k : Int) := by simpa using hq
          have HM : Hid (∀ j, j < k + 1 → ∀ (h : j < cs.length), chB cs[j] = true ∧ idxZ cs cs[j].name = (j : Int)) := more_rows (p := fun j => ∀ (h : j < cs.length), chB cs[j] = true ∧ idxZ cs cs[j].name = (j : Int)) hall.out fun h => ⟨HV.out, by rw [← hzk]; exact HZ.out⟩
          clear hzk
          go_wp2_with fail
          refine (l03Channel_any b1 (o1 + k * 4) cs[k] true _ d1 d2 d3 d4 hsz HV).mono ?_
          rintro e w2 ⟨rfl, hb3⟩
          have hW2 := Below.next hW hb3
          have hz3 := hb3.size
          have q0' : w2.cell? ⟨b, 0, none⟩ = some (.slice (some ⟨b1, o1, none⟩) n1 c1) := (hb3.cell (p := ⟨b, 0, none⟩) hblr).trans q0
          have d1' : w2.cell? ⟨b1, o1 + k * 4, none⟩ = some (.string cs[k].name) := (hb3.cell (p := ⟨b1, o1 + k * 4, none⟩) lb).trans d1
          have hbl2 : b < w2.heap.size := by omega
          have lb2 : b1 < w2.heap.size := by omega
          clear hb3
          go_wp2_with fail
          refine (l03Find_any b A1 n1 c1 cs cs[k].name z _ (by rw [E1.out]; exact q0') (R1.out.below hW2) L1.out z1 HZ).mono ?_
          rintro e w3 ⟨rfl, rfl⟩
          go_wp2_with fail
          go_roundw
          case rel => exact ⟨k + 1, by omega, by go_num, HM, hW2⟩
          case measure => simp [intOf]; omega
        · have HQ : Hid (¬ z = (k : Int)) := by simpa [Hid] using hq
          go_wp2_with fail
          refine (l03Channel_any b1 (o1 + k * 4) cs[k] true _ d1 d2 d3 d4 hsz HV).mono ?_
          rintro e w2 ⟨rfl, hb3⟩
          have hW2 := Below.next hW hb3
          have hz3 := hb3.size
          have q0' : w2.cell? ⟨b, 0, none⟩ = some (.slice (some ⟨b1, o1, none⟩) n1 c1) := (hb3.cell (p := ⟨b, 0, none⟩) hblr).trans q0
          have d1' : w2.cell? ⟨b1, o1 + k * 4, none⟩ = some (.string cs[k].name) := (hb3.cell (p := ⟨b1, o1 + k * 4, none⟩) lb).trans d1
          have hbl2 : b < w2.heap.size := by omega
          have lb2 : b1 < w2.heap.size := by omega
          clear hb3
          go_wp2_with fail
          refine (l03Find_any b A1 n1 c1 cs cs[k].name z _ (by rw [E1.out]; exact q0') (R1.out.below hW2) L1.out z1 HZ).mono ?_
          rintro e w3 ⟨rfl, rfl⟩
          go_wp2_with fail
          go_ret
          refine ⟨ret_bool (no_of hb2.out fun h => HQ.out ?_).symm, hW2⟩
          have := (h.2.2.2.2.1 k hlt ka).2
          rw [HZ.out] at this
          exact this
    · have HC : Hid (∀ j, j < n1 → ∀ (h : j < cs.length), chB cs[j] = true ∧ idxZ cs cs[j].name = (j : Int)) := fun j hj => hall.out j (by omega)
      have q1 : wr.cell? ⟨b, 1, none⟩ = some (.slice A2 n2 c2) := (hW.cell (p := ⟨b, 1, none⟩) hbl).trans Q1.out
      obtain ⟨wb, rfl⟩ : ∃ wb, wb = wr := ⟨wr, rfl⟩
      go_wp2_with fail
      go_loopw [4] (fun i wo => ∃ k : Nat, k ≤ n2 ∧ i = .int .i64 (k : Int) ∧ Hid (∀ j, j < k → ∀ (h : j < ss.length), StOk cs (rowsK.pl ss[j])) ∧ Below w.heap.size w wo) (fun i _ => n2 - (intOf i).toNat)
      case atStart => exact ⟨0, Nat.zero_le _, rfl, fun j hj => absurd hj (by omega), hW⟩
      case round =>
        clear hall hW q0 q1 hWs hlt hk hblr
        obtain ⟨k, hk, rfl, hall, hW⟩ := hrel
        have hWs := hW.size
        have hblr : b < wr.heap.size := by omega
        have q1 : wr.cell? ⟨b, 1, none⟩ = some (.slice A2 n2 c2) := (hW.cell (p := ⟨b, 1, none⟩) hbl).trans Q1.out
        by_cases hlt : k < n2
        · have ka : k < ss.length := by have := L2.out; omega
          obtain ⟨b1, o1, e1, lb, c0⟩ := (R2.out.below hW).at hdC_len L2.out ka
          have d1 : wr.cell? ⟨b1, o1 + k, none⟩ = some (.slice ss[k].A ss[k].l.length ss[k].c) := by simpa [Sl.val] using c0 0 _ rfl
          clear c0
          have E1 := Lib.hid e1
          rw [e1] at q1
          clear e1
          have hsz := Z4.out _ (List.getElem_mem ka)
          obtain ⟨u, hu⟩ := bool_of (StOk cs (rowsK.pl ss[k]))
          have hst := Lib.hid (hu.trans stOk_iff)
          have hrd := rowsK_ok.below (R22.out _ (List.getElem_mem ka)) hW
          obtain ⟨Ar, cr, l, hr⟩ : ∃ Ar cr l, ss[k] = ⟨Ar, cr, l⟩ := ⟨ss[k].A, ss[k].c, ss[k].l, rfl⟩
          have HU : Hid (u = true ↔ StOk cs (rowsK.pl ss[k])) := hu
          rw [hr] at hrd hsz d1
          have hst2 : Hid (u = true ↔ 1 ≤ l.length ∧ l.length ≤ 60 ∧ ∀ j (h : j < l.length), RowOk cs l[j].l) := by rw [hr] at hst; exact hst
          simp only [] at hsz d1
          obtain ⟨m, lm⟩ : ∃ m, l.length = m := ⟨_, rfl⟩
          have rm : Rd wr Ar l.length 1 (rowOf hdC l) := hrd.1
          have rm2 : ∀ a ∈ l, rowK.rd wr a := hrd.2
          have hsz1 := hsz.1
          rw [lm] at rm d1 hsz1
          have hst3 : Hid (u = true ↔ 1 ≤ m ∧ m ≤ 60 ∧ ∀ j (h : j < l.length), RowOk cs l[j].l) := by subst lm; exact hst2
          have RM := Lib.hid rm
          have RM2 := Lib.hid rm2
          have LM := Lib.hid lm
          have HS2 := Lib.hid hsz.2.1
          have HSZ1 := Lib.hid hsz1
          clear hu hst hst2 hr hrd hsz rm rm2 lm
          have hk0 : (0 : Int) ≤ (k : Int) := by omega
          have hkn : (k : Int) < (n2 : Int) := by omega
          obtain ⟨wo, rfl⟩ : ∃ wo, wo = wr := ⟨wr, rfl⟩
          go_wp2_with fail
          go_loopw [6] (fun i wr => ∃ j : Nat, j ≤ m ∧ i = .int .i64 (j : Int) ∧ Hid (∀ i, i < j → ∀ (h : i < l.length), RowOk cs l[i].l) ∧ Below wo.heap.size wo wr) (fun i _ => m - (intOf i).toNat)
          case atStart => exact ⟨0, Nat.zero_le _, rfl, fun j hj => absurd hj (by omega), Below.refl _ _⟩
          case round =>
            obtain ⟨j, hj, rfl, hin, hWr⟩ := hrel
            have hWrs := hWr.size
            have hblw : b < wr.heap.size := by omega
            have hW2 : Below w.heap.size w wr := hW.trans (hWr.mono (by omega))
            have q0 : wr.cell? ⟨b, 0, none⟩ = some (.slice A1 n1 c1) := (hW2.cell (p := ⟨b, 0, none⟩) hbl).trans Q0.out
            by_cases hjlt : j < m
            · have kr : j < l.length := by have := LM.out; omega
              obtain ⟨b2, o2, rfl, l2, f0⟩ := (RM.out.below hWr).at hdC_len LM.out kr
              have f1 : wr.cell? ⟨b2, o2 + j, none⟩ = some (.slice l[j].A l[j].l.length l[j].c) := by simpa [Sl.val] using f0 0 _ rfl
              clear f0
              have hrow : Rd wr l[j].A l[j].l.length 1 (rowOf iC l[j].l) := (rowK_ok.below (RM2.out _ (List.getElem_mem kr)) hWr).1
              have hrl := HS2.out _ (List.getElem_mem kr)
              obtain ⟨y, hy⟩ := bool_of (RowOk cs l[j].l)
              have hj0 : (0 : Int) ≤ (j : Int) := by omega
              have hjn : (j : Int) < (m : Int) := by omega
              go_wp2_with fail
              refine (l03Row_any b A1 n1 c1 cs l[j].A l[j].l.length l[j].c l[j].l y _ q0 (R1.out.below hW2) L1.out z1 hrow rfl hrl hy).mono ?_
              rintro e w3 ⟨rfl, hb4⟩
              have hW3 := Below.next hWr hb4
              clear hb4
              cases y
              · go_wp2_with fail
                go_ret
                refine ⟨ret_bool (no_of hb2.out fun h => ?_).symm, hW.trans (hW3.mono (by omega))⟩
                exact absurd (hy.2 ((hst3.out.1 (HU.out.2 (h.2.2.2.2.2.1 k hlt ka))).2.2 j kr)) (by simp)
              · have HM : Hid (∀ i, i < j + 1 → ∀ (h : i < l.length), RowOk cs l[i].l) := more_rows (p := fun i => ∀ (h : i < l.length), RowOk cs l[i].l) hin.out fun _ => hy.1 rfl
                go_wp2_with fail
                go_roundw
                case rel => exact ⟨j + 1, by omega, by go_num, HM, hW3⟩
                case measure => simp [intOf]; omega
            · cases hx : inB (m : Int) 1 60
              · have HX := Lib.hid hx
                clear hx
                go_wp2_with (first | (go_at_call 31; refine (l00In_v HX _).mono ?_; rintro e w' ⟨rfl, rfl⟩))
                go_ret
                refine ⟨ret_bool (no_of hb2.out fun h => ?_).symm, hW2⟩
                have h1 := hst3.out.1 (HU.out.2 (h.2.2.2.2.2.1 k hlt ka))
                have h2 := inB_false HX.out
                omega
              · have HX := Lib.hid hx
                clear hx
                have HU2 : Hid (StOk cs (rowsK.pl ss[k])) := by
                  have h2 := inB_true HX.out
                  exact HU.out.1 (hst3.out.2 ⟨by omega, by omega, fun i h => hin.out i (by have := LM.out; omega) h⟩)
                have HM : Hid (∀ j, j < k + 1 → ∀ (h : j < ss.length), StOk cs (rowsK.pl ss[j])) := more_rows (p := fun j => ∀ (h : j < ss.length), StOk cs (rowsK.pl ss[j])) hall.out fun _ => HU2.out
                go_wp2_with (first | (go_at_call 31; refine (l00In_v HX _).mono ?_; rintro e w' ⟨rfl, rfl⟩))
                go_roundw
                case rel => exact ⟨k + 1, by omega, by go_num, HM, hW2⟩
                case measure => simp [intOf]; omega
        · have HS : Hid (∀ j, j < n2 → ∀ (h : j < ss.length), StOk cs (rowsK.pl ss[j])) := fun j hj => hall.out j (by omega)
          obtain ⟨wc, rfl⟩ : ∃ wc, wc = wr := ⟨wr, rfl⟩
          go_wp2_with fail
          go_loopw [7] (fun i wo => ∃ k : Nat, k ≤ n3 ∧ i = .int .i64 (k : Int) ∧ Hid (∀ j, j < k → ∀ (h : j < ns.length), noB n2 ns[j] = true ∧ nameB ns[j].text.data.toList = true) ∧ Below w.heap.size w wo) (fun i _ => n3 - (intOf i).toNat)
          case atStart => exact ⟨0, Nat.zero_le _, rfl, fun j hj => absurd hj (by omega), hW⟩
          case round =>
            clear hall hW q1 hWs hlt hk hblr
            obtain ⟨k, hk, rfl, hall, hW⟩ := hrel
            have hWs := hW.size
            have hblr : b < wr.heap.size := by omega
            have q1 : wr.cell? ⟨b, 1, none⟩ = some (.slice A2 n2 c2) := (hW.cell (p := ⟨b, 1, none⟩) hbl).trans Q1.out
            have q2 : wr.cell? ⟨b, 2, none⟩ = some (.slice A3 n3 c3) := (hW.cell (p := ⟨b, 2, none⟩) hbl).trans Q2.out
            by_cases hlt : k < n3
            · have ka : k < ns.length := by have := L3.out; omega
              obtain ⟨b1, o1, e1, lb, c0⟩ := (R3.out.below hW).at noC_len L3.out ka
              have d1 : wr.cell? ⟨b1, o1 + k * 3, none⟩ = some (.int .i64 ns[k].fr) := c0 0 _ rfl
              have d2 : wr.cell? ⟨b1, o1 + k * 3 + 1, none⟩ = some (.int .i64 ns[k].til) := c0 1 _ rfl
              have d3 : wr.cell? ⟨b1, o1 + k * 3 + 2, none⟩ = some (.string ns[k].text) := c0 2 _ rfl
              clear c0
              rw [e1] at q2
              clear e1
              have hsz := X2.out _ (List.getElem_mem ka)
              have hk0 : (0 : Int) ≤ (k : Int) := by omega
              have hkn : (k : Int) < (n3 : Int) := by omega
              cases hv : noB n2 ns[k]
              · have HV := Lib.hid hv
                clear hv
                go_wp2_with fail
                refine (l03Place_any b A2 n2 c2 b1 (o1 + k * 3) ns[k] false _ q1 d1 d2 z2 HV).mono ?_
                rintro e w2 ⟨rfl, hb3⟩
                have hW2 := Below.next hW hb3
                clear hb3
                go_wp2_with fail
                go_ret
                refine ⟨ret_bool (no_of hb2.out fun h => ?_).symm, hW2⟩
                have := (h.2.2.2.2.2.2 k hlt ka).1
                rw [HV.out] at this
                exact absurd this (by simp)
              · have HV := Lib.hid hv
                clear hv
                cases hq : nameB ns[k].text.data.toList
                · have HQ := Lib.hid hq
                  clear hq
                  go_wp2_with fail
                  refine (l03Place_any b A2 n2 c2 b1 (o1 + k * 3) ns[k] true _ q1 d1 d2 z2 HV).mono ?_
                  rintro e w2 ⟨rfl, hb3⟩
                  have hW2 := Below.next hW hb3
                  have hz3 := hb3.size
                  have q2' : w2.cell? ⟨b, 2, none⟩ = some (.slice (some ⟨b1, o1, none⟩) n3 c3) := (hb3.cell (p := ⟨b, 2, none⟩) hblr).trans q2
                  have d3' : w2.cell? ⟨b1, o1 + k * 3 + 2, none⟩ = some (.string ns[k].text) := (hb3.cell (p := ⟨b1, o1 + k * 3 + 2, none⟩) lb).trans d3
                  have hbl2 : b < w2.heap.size := by omega
                  have lb2 : b1 < w2.heap.size := by omega
                  clear hb3
                  go_wp2_with (first | (go_at_call 33; refine (sIsName_is HQ hsz _).mono ?_; rintro e w' ⟨rfl, rfl⟩))
                  go_ret
                  refine ⟨ret_bool (no_of hb2.out fun h => ?_).symm, hW2⟩
                  have := (h.2.2.2.2.2.2 k hlt ka).2
                  rw [HQ.out] at this
                  exact absurd this (by simp)
                · have HQ := Lib.hid hq
                  clear hq
                  have HM : Hid (∀ j, j < k + 1 → ∀ (h : j < ns.length), noB n2 ns[j] = true ∧ nameB ns[j].text.data.toList = true) := more_rows (p := fun j => ∀ (h : j < ns.length), noB n2 ns[j] = true ∧ nameB ns[j].text.data.toList = true) hall.out fun _ => ⟨HV.out, HQ.out⟩
                  go_wp2_with fail
                  refine (l03Place_any b A2 n2 c2 b1 (o1 + k * 3) ns[k] true _ q1 d1 d2 z2 HV).mono ?_
                  rintro e w2 ⟨rfl, hb3⟩
                  have hW2 := Below.next hW hb3
                  have hz3 := hb3.size
                  have q2' : w2.cell? ⟨b, 2, none⟩ = some (.slice (some ⟨b1, o1, none⟩) n3 c3) := (hb3.cell (p := ⟨b, 2, none⟩) hblr).trans q2
                  have d3' : w2.cell? ⟨b1, o1 + k * 3 + 2, none⟩ = some (.string ns[k].text) := (hb3.cell (p := ⟨b1, o1 + k * 3 + 2, none⟩) lb).trans d3
                  have hbl2 : b < w2.heap.size := by omega
                  have lb2 : b1 < w2.heap.size := by omega
                  clear hb3
                  go_wp2_with (first | (go_at_call 33; refine (sIsName_is HQ hsz _).mono ?_; rintro e w' ⟨rfl, rfl⟩))
                  go_roundw
                  case rel => exact ⟨k + 1, by omega, by go_num, HM, hW2⟩
                  case measure => simp [intOf]; omega
            · have HNo : Hid (∀ j, j < n3 → ∀ (h : j < ns.length), noB n2 ns[j] = true ∧ nameB ns[j].text.data.toList = true) := fun j hj => hall.out j (by omega)
              have q0 : wr.cell? ⟨b, 0, none⟩ = some (.slice A1 n1 c1) := (hW.cell (p := ⟨b, 0, none⟩) hbl).trans Q0.out
              cases hx : inB (n1 : Int) 1 6
              · have HX := Lib.hid hx
                clear hx
                go_wp2_with (first | (go_at_call 31; refine (l00In_v HX _).mono ?_; rintro e w' ⟨rfl, rfl⟩))
                go_ret
                refine ⟨ret_bool (no_of hb2.out fun h => ?_).symm, hW⟩
                have h2 := inB_false HX.out
                omega
              · have HX := Lib.hid hx
                clear hx
                cases h3 : decide ((n2 : Int) ≤ 16)
                · go_wp2_with (first | (go_at_call 31; refine (l00In_v HX _).mono ?_; rintro e w' ⟨rfl, rfl⟩))
                  go_ret
                  refine ⟨ret_bool (no_of hb2.out fun h => ?_).symm, hW⟩
                  simp at h3
                  omega
                · cases h4 : decide ((n3 : Int) ≤ 12)
                  · go_wp2_with (first | (go_at_call 31; refine (l00In_v HX _).mono ?_; rintro e w' ⟨rfl, rfl⟩))
                    go_ret
                    refine ⟨ret_bool (no_of hb2.out fun h => ?_).symm, hW⟩
                    simp at h4
                    omega
                  · go_wp2_with (first | (go_at_call 31; refine (l00In_v HX _).mono ?_; rintro e w' ⟨rfl, rfl⟩))
                    go_ret
                    have h2 := inB_true HX.out
                    simp at h3 h4
                    exact ⟨ret_bool (hb2.out.2 ⟨by omega, by omega, by omega, by omega, HC.out, HS.out, HNo.out⟩).symm, hW⟩
end Go.Proofs.YtmdmjnhebbhjbaaDoor
