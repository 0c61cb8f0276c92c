/-
  The program's test of a file.
-/
import Derived.Test.YtmdmjnhebbhjbaaDoorFileOkP
namespace Go.Proofs.YtmdmjnhebbhjbaaDoor
set_option linter.unusedSimpArgs false
set_option linter.unusedVariables false
set_option maxRecDepth 20000
open Go.RowKit
open Go.ChangeShapes Go.WideShapes Go.Deep Go.Joins

theorem fileOk_iff {f : Fl} : FileOk (filePl f) ↔ 1 ≤ f.ch.l.length ∧ f.ch.l.length ≤ 6 ∧ f.st.l.length ≤ 16 ∧ f.no.l.length ≤ 12 ∧ (∀ j, j < f.ch.l.length → ∀ (h : j < f.ch.l.length), chB f.ch.l[j] = true ∧ idxZ f.ch.l f.ch.l[j].name = (j : Int)) ∧ (∀ j, j < f.st.l.length → ∀ (h : j < f.st.l.length), StOk f.ch.l (rowsK.pl f.st.l[j])) ∧ (∀ j, j < f.no.l.length → ∀ (h : j < f.no.l.length), noB f.st.l.length f.no.l[j] = true ∧ nameB f.no.l[j].text.data.toList = true) := by
  have e : (filePl f).st = f.st.l.map rowsK.pl := rfl
  have e2 : (filePl f).st.length = f.st.l.length := by rw [e, List.length_map]
  constructor
  · intro h
    refine ⟨h.c1, h.c6, by rw [← e2]; exact h.s16, h.n12, fun j _ hj => ?_, fun j _ hj => h.sts _ (by rw [e]; exact List.mem_map_of_mem (List.getElem_mem hj)), fun j _ hj => by rw [← e2]; exact h.nos _ (List.getElem_mem hj)⟩
    obtain ⟨h1, h2⟩ := h.chs j hj
    refine ⟨h1, ?_⟩
    have h2' : idxC f.ch.l f.ch.l[j].name = j := h2
    unfold idxZ
    rw [h2', if_pos hj]
  · rintro ⟨h1, h2, h3, h4, h5, h6, h7⟩
    refine ⟨h1, h2, by rw [e2]; exact h3, h4, fun j hj => ?_, fun s hs => ?_, fun n hn => ?_⟩
    · obtain ⟨a, b⟩ := h5 j hj hj
      refine ⟨a, ?_⟩
      show idxC f.ch.l f.ch.l[j].name = j
      unfold idxZ at b
      split at b
      · omega
      · omega
    · rw [e] at hs
      obtain ⟨q, hq, rfl⟩ := List.mem_map.1 hs
      obtain ⟨j, hj, rfl⟩ := List.mem_iff_getElem.1 hq
      exact h6 j hj hj
    · obtain ⟨j, hj, rfl⟩ := List.mem_iff_getElem.1 hn
      rw [e2]
      exact h7 j hj hj
set_option maxHeartbeats 8000000 in
theorem iValidFile_any (f : Fl) (b : Bool) (w : World) (h : FileRd w f) (hs : FileSz f) (ht : PlTx (filePl f)) (hb : b = true ↔ FileOk (filePl f)) :
    Calls Tryd.prog 17 #[.agg #[.slice f.ch.A f.ch.l.length f.ch.c, .slice f.st.A f.st.l.length f.st.c, .slice f.no.A f.no.l.length f.no.c]] w fun e w' => e = .returned (.bool b) ∧ Below w.heap.size w w' := by
  have hb2 := Lib.hid (hb.trans fileOk_iff)
  have hx1 : ∀ c ∈ f.ch.l, c.name.size ≤ 1048576 ∧ c.unit.size ≤ 1048576 := ht.chs
  have hx2 : ∀ n ∈ f.no.l, n.text.size ≤ 1048576 := ht.nos
  obtain ⟨r1, r2, r3⟩ := h
  obtain ⟨z1, z2, z4, _, z3⟩ := hs
  clear hb ht
  obtain ⟨⟨A1, c1, cs⟩, ⟨A2, c2, ss⟩, ⟨A3, c3, ns⟩⟩ := f
  simp only [] at hb2 hx1 hx2 z1 z2 z3 z4 ⊢
  obtain ⟨n1, l1⟩ : ∃ m, cs.length = m := ⟨_, rfl⟩
  obtain ⟨n2, l2⟩ : ∃ m, ss.length = m := ⟨_, rfl⟩
  obtain ⟨n3, l3⟩ : ∃ m, ns.length = m := ⟨_, rfl⟩
  have ra : Rd w A1 cs.length 4 (rowOf chC cs) := r1.1
  have rb : Rd w A2 ss.length 1 (rowOf hdC ss) := r2.1
  have rb2 : ∀ a ∈ ss, rowsK.rd w a := r2.2
  have rc : Rd w A3 ns.length 3 (rowOf noC ns) := r3.1
  have hb3 : Hid (b = true ↔ 1 ≤ n1 ∧ n1 ≤ 6 ∧ n2 ≤ 16 ∧ n3 ≤ 12 ∧ (∀ j, j < n1 → ∀ (h : j < cs.length), chB cs[j] = true ∧ idxZ cs cs[j].name = (j : Int)) ∧ (∀ j, j < n2 → ∀ (h : j < ss.length), StOk cs (rowsK.pl ss[j])) ∧ (∀ j, j < n3 → ∀ (h : j < ns.length), noB n2 ns[j] = true ∧ nameB ns[j].text.data.toList = true)) := by
    subst l1 l2 l3; exact hb2
  clear hb2
  have hb2 := hb3
  clear hb3
  rw [l1] at ra z1 ⊢
  rw [l2] at rb z2 ⊢
  rw [l3] at rc z3 ⊢
  have R1 := Lib.hid ra
  have R2 := Lib.hid rb
  have R22 := Lib.hid rb2
  have R3 := Lib.hid rc
  have L1 := Lib.hid l1
  have L2 := Lib.hid l2
  have L3 := Lib.hid l3
  have X1 := Lib.hid hx1
  have X2 := Lib.hid hx2
  have Z4 := Lib.hid z4
  have HK : Hid (Bk (w.alloc (.cells #[.slice A1 n1 c1, .slice A2 n2 c2, .slice A3 n3 c3] 33)) w.heap.size 33 #[.slice A1 n1 c1, .slice A2 n2 c2, .slice A3 n3 c3]) := Bk.new w _ _
  clear r1 r2 r3 ra rb rb2 rc l1 l2 l3 hx1 hx2 z4
  by_cases h1 : 1 ≤ n1
  rotate_left
  · go_enter Tryd.func17, Tryd.ntmps17
    go_wp2_with fail
    go_ret
    exact ⟨ret_bool (no_of hb2.out fun h => h1 h.1).symm, by go_grown⟩
  by_cases h2 : n1 ≤ 6
  rotate_left
  · go_enter Tryd.func17, Tryd.ntmps17
    go_wp2_with fail
    go_ret
    exact ⟨ret_bool (no_of hb2.out fun h => h2 h.2.1).symm, by go_grown⟩
  by_cases h3 : n2 ≤ 16
  rotate_left
  · go_enter Tryd.func17, Tryd.ntmps17
    go_wp2_with fail
    go_ret
    exact ⟨ret_bool (no_of hb2.out fun h => h3 h.2.2.1).symm, by go_grown⟩
  by_cases h4 : n3 ≤ 12
  rotate_left
  · go_enter Tryd.func17, Tryd.ntmps17
    go_wp2_with fail
    go_ret
    exact ⟨ret_bool (no_of hb2.out fun h => h4 h.2.2.2.1).symm, by go_grown⟩
  have HN := Lib.hid (show 1 ≤ n1 ∧ n1 ≤ 6 ∧ n2 ≤ 16 ∧ n3 ≤ 12 from ⟨h1, h2, h3, h4⟩)
  go_enter Tryd.func17, Tryd.ntmps17
  go_wp2_with fail
  clear h1
  go_loopw [34] (fun i wo => ∃ k : Nat, k ≤ n1 ∧ i = .int .i64 (k : Int) ∧ Hid (∀ j, j < k → ∀ (h : j < cs.length), chB cs[j] = true ∧ idxZ cs cs[j].name = (j : Int)) ∧ Hid (Bk wo w.heap.size 33 #[.slice A1 n1 c1, .slice A2 n2 c2, .slice A3 n3 c3]) ∧ Below w.heap.size w wo) (fun i _ => n1 - (intOf i).toNat)
  case atStart => exact ⟨0, Nat.zero_le _, rfl, fun j hj => absurd hj (by omega), HK.out, by go_grown⟩
  case round =>
    obtain ⟨k, hk, rfl, hall, hbk, hW⟩ := hrel
    have hWs := hW.size
    by_cases hlt : k < n1
    · have ka : k < cs.length := by have := L1.out; omega
      obtain ⟨b1, o1, rfl, lb, c0⟩ := (R1.out.below hW).at chC_len L1.out ka
      have d1 : wr.cell? ⟨b1, o1 + k * 4, none⟩ = some (.string cs[k].name) := c0 0 _ rfl
      have d2 : wr.cell? ⟨b1, o1 + k * 4 + 1, none⟩ = some (.string cs[k].unit) := c0 1 _ rfl
      have d3 : wr.cell? ⟨b1, o1 + k * 4 + 2, none⟩ = some (.int .i64 cs[k].low) := c0 2 _ rfl
      have d4 : wr.cell? ⟨b1, o1 + k * 4 + 3, none⟩ = some (.int .i64 cs[k].high) := c0 3 _ rfl
      clear c0
      have hsz := X1.out _ (List.getElem_mem ka)
      have HE : Hid (Bk (wr.alloc (.cells #[.string cs[k].name, .string cs[k].unit, .int .i64 cs[k].low, .int .i64 cs[k].high] 52)) wr.heap.size 52 #[.string cs[k].name, .string cs[k].unit, .int .i64 cs[k].low, .int .i64 cs[k].high]) := Bk.new wr _ _
      have HF := Lib.hid (hbk.out.alloc (.cells #[.string cs[k].name, .string cs[k].unit, .int .i64 cs[k].low, .int .i64 cs[k].high] 52))
      cases hv : chB cs[k]
      · have HV := Lib.hid hv
        clear hv
        go_wp2_with fail
        refine (validCh_any cs[k] false _ hsz HV).mono ?_
        rintro e w2 ⟨rfl, hb3⟩
        have hW2 := Below.next (Below.trans hW (by go_grown : Below w.heap.size wr _)) hb3
        clear hb3
        go_wp2_with fail
        go_ret
        refine ⟨ret_bool (no_of hb2.out fun h => ?_).symm, hW2⟩
        have := (h.2.2.2.2.1 k hlt ka).1
        rw [HV.out] at this
        exact absurd this (by simp)
      · have HV := Lib.hid hv
        clear hv
        obtain ⟨z, hz⟩ : ∃ z, idxZ cs cs[k].name = z := ⟨_, rfl⟩
        have HZ := Lib.hid hz
        clear hz
        cases hq : (z != (k : Int))
        · have hzk : z = (k : Int) := by simpa using hq
          have HM : Hid (∀ j, j < k + 1 → ∀ (h : j < cs.length), chB cs[j] = true ∧ idxZ cs cs[j].name = (j : Int)) := more_rows (p := fun j => ∀ (h : j < cs.length), chB cs[j] = true ∧ idxZ cs cs[j].name = (j : Int)) hall.out fun h => ⟨HV.out, by rw [← hzk]; exact HZ.out⟩
          clear hzk
          go_wp2_with fail
          refine (validCh_any cs[k] true _ hsz HV).mono ?_
          rintro e w2 ⟨rfl, hb3⟩
          have hW2 := Below.next (Below.trans hW (by go_grown : Below w.heap.size wr _)) hb3
          have HE2 := HE.out.next hb3
          have HF2 := HF.out.next hb3
          have y0 := HE2.cell 0
          have y1 := HF2.cell 0
          have y2 := HE2.lt
          have y3 := HF2.lt
          have HF2' := Lib.hid HF2
          clear hb3 HE2 HF2
          go_wp2_with fail
          refine (indexOf_any _ n1 c1 cs cs[k].name z _ (R1.out.below hW2) L1.out z1 HZ).mono ?_
          rintro e w3 ⟨rfl, hb4⟩
          have hW3 := Below.next hW2 hb4
          have HF3 := Lib.hid (HF2'.out.next hb4)
          clear hb4 y0 y1 y2 y3
          go_wp2_with fail
          go_roundw
          case rel => exact ⟨k + 1, by omega, by go_num, HM, HF3.out, hW3⟩
          case measure => simp [intOf]; omega
        · have HQ : Hid (¬ z = (k : Int)) := by simpa [Hid] using hq
          go_wp2_with fail
          refine (validCh_any cs[k] true _ hsz HV).mono ?_
          rintro e w2 ⟨rfl, hb3⟩
          have hW2 := Below.next (Below.trans hW (by go_grown : Below w.heap.size wr _)) hb3
          have HE2 := HE.out.next hb3
          have HF2 := HF.out.next hb3
          have y0 := HE2.cell 0
          have y1 := HF2.cell 0
          have y2 := HE2.lt
          have y3 := HF2.lt
          clear hb3 HE2 HF2
          go_wp2_with fail
          refine (indexOf_any _ n1 c1 cs cs[k].name z _ (R1.out.below hW2) L1.out z1 HZ).mono ?_
          rintro e w3 ⟨rfl, hb4⟩
          have hW3 := Below.next hW2 hb4
          clear hb4 y0 y1 y2 y3
          go_wp2_with fail
          go_ret
          refine ⟨ret_bool (no_of hb2.out fun h => HQ.out ?_).symm, hW3⟩
          have := (h.2.2.2.2.1 k hlt ka).2
          rw [HZ.out] at this
          exact this
    · have HC : Hid (∀ j, j < n1 → ∀ (h : j < cs.length), chB cs[j] = true ∧ idxZ cs cs[j].name = (j : Int)) := fun j hj => hall.out j (by omega)
      have e0 := hbk.out.cell 0
      have e1 := hbk.out.cell 1
      have e2 := hbk.out.cell 2
      have hbl := hbk.out.lt
      have HK2 := hbk
      clear HK
      obtain ⟨wb, rfl⟩ : ∃ wb, wb = wr := ⟨wr, rfl⟩
      go_wp2_with fail
      go_loopw [55] (fun i wo => ∃ k : Nat, k ≤ n2 ∧ i = .int .i64 (k : Int) ∧ Hid (∀ j, j < k → ∀ (h : j < ss.length), StOk cs (rowsK.pl ss[j])) ∧ Hid (Bk wo w.heap.size 33 #[.slice A1 n1 c1, .slice A2 n2 c2, .slice A3 n3 c3]) ∧ Below w.heap.size w wo) (fun i _ => n2 - (intOf i).toNat)
      case atStart => exact ⟨0, Nat.zero_le _, rfl, fun j hj => absurd hj (by omega), HK2.out, hW⟩
      case round =>
        clear hbk hall hW e0 e1 e2 hbl HK2 hWs hlt hk
        obtain ⟨k, hk, rfl, hall, hbk, hW⟩ := hrel
        have hWs := hW.size
        have e0 := hbk.out.cell 0
        have e1 := hbk.out.cell 1
        have e2 := hbk.out.cell 2
        have hbl := hbk.out.lt
        by_cases hlt : k < n2
        · have ka : k < ss.length := by have := L2.out; omega
          obtain ⟨b1, o1, rfl, lb, c0⟩ := (R2.out.below hW).at hdC_len L2.out ka
          have d1 : wr.cell? ⟨b1, o1 + k, none⟩ = some (.slice ss[k].A ss[k].l.length ss[k].c) := by simpa [Sl.val] using c0 0 _ rfl
          clear c0
          have hsz := Z4.out _ (List.getElem_mem ka)
          have HF := Lib.hid (hbk.out.alloc (.cells #[.slice ss[k].A ss[k].l.length ss[k].c] 60))
          have hWa := Lib.hid (hW.alloc hWs (.cells #[.slice ss[k].A ss[k].l.length ss[k].c] 60))
          obtain ⟨v, hv⟩ := bool_of (StOk cs (rowsK.pl ss[k]))
          go_wp2_with fail
          refine (validRows_any ss[k] A1 n1 c1 cs v _ (rowsK_ok.below (R22.out _ (List.getElem_mem ka)) hWa.out) hsz.1 hsz.2.1 (R1.out.below hWa.out) L1.out z1 hv).mono ?_
          rintro e w2 ⟨rfl, hb3⟩
          have hW2 := Below.next hWa.out hb3
          have HF2 := Lib.hid (HF.out.next hb3)
          clear hb3
          cases v
          · go_wp2_with fail
            go_ret
            refine ⟨ret_bool (no_of hb2.out fun h => ?_).symm, hW2⟩
            exact absurd (hv.2 (h.2.2.2.2.2.1 k hlt ka)) (by simp)
          · have HM : Hid (∀ j, j < k + 1 → ∀ (h : j < ss.length), StOk cs (rowsK.pl ss[j])) := more_rows (p := fun j => ∀ (h : j < ss.length), StOk cs (rowsK.pl ss[j])) hall.out fun _ => hv.1 rfl
            go_wp2_with fail
            go_roundw
            case rel => exact ⟨k + 1, by omega, by go_num, HM, HF2.out, hW2⟩
            case measure => simp [intOf]; omega
        · have HS : Hid (∀ j, j < n2 → ∀ (h : j < ss.length), StOk cs (rowsK.pl ss[j])) := fun j hj => hall.out j (by omega)
          have HK2 := hbk
          obtain ⟨wc, rfl⟩ : ∃ wc, wc = wr := ⟨wr, rfl⟩
          go_wp2_with fail
          go_loopw [68] (fun i wo => ∃ k : Nat, k ≤ n3 ∧ i = .int .i64 (k : Int) ∧ Hid (∀ j, j < k → ∀ (h : j < ns.length), noB n2 ns[j] = true ∧ nameB ns[j].text.data.toList = true) ∧ Hid (Bk wo w.heap.size 33 #[.slice A1 n1 c1, .slice A2 n2 c2, .slice A3 n3 c3]) ∧ Below w.heap.size w wo) (fun i _ => n3 - (intOf i).toNat)
          case atStart => exact ⟨0, Nat.zero_le _, rfl, fun j hj => absurd hj (by omega), HK2.out, hW⟩
          case round =>
            clear hbk hall hW e0 e1 e2 hbl HK2 hWs hlt hk
            obtain ⟨k, hk, rfl, hall, hbk, hW⟩ := hrel
            have hWs := hW.size
            have e0 := hbk.out.cell 0
            have e1 := hbk.out.cell 1
            have e2 := hbk.out.cell 2
            have hbl := hbk.out.lt
            by_cases hlt : k < n3
            · have ka : k < ns.length := by have := L3.out; omega
              obtain ⟨b1, o1, rfl, lb, c0⟩ := (R3.out.below hW).at noC_len L3.out ka
              have d1 : wr.cell? ⟨b1, o1 + k * 3, none⟩ = some (.int .i64 ns[k].fr) := c0 0 _ rfl
              have d2 : wr.cell? ⟨b1, o1 + k * 3 + 1, none⟩ = some (.int .i64 ns[k].til) := c0 1 _ rfl
              have d3 : wr.cell? ⟨b1, o1 + k * 3 + 2, none⟩ = some (.string ns[k].text) := c0 2 _ rfl
              clear c0
              have hsz := X2.out _ (List.getElem_mem ka)
              have HE : Hid (Bk (wr.alloc (.cells #[.int .i64 ns[k].fr, .int .i64 ns[k].til, .string ns[k].text] 64)) wr.heap.size 64 #[.int .i64 ns[k].fr, .int .i64 ns[k].til, .string ns[k].text]) := Bk.new wr _ _
              have HF := Lib.hid (hbk.out.alloc (.cells #[.int .i64 ns[k].fr, .int .i64 ns[k].til, .string ns[k].text] 64))
              have hWa := Lib.hid (hW.alloc hWs (.cells #[.int .i64 ns[k].fr, .int .i64 ns[k].til, .string ns[k].text] 64))
              cases hv : noB n2 ns[k]
              · have HV := Lib.hid hv
                clear hv
                go_wp2_with fail
                refine (noted_any _ _ A2 n2 c2 ns[k] false _ z2 HV).mono ?_
                rintro e w2 ⟨rfl, hb3⟩
                have hW2 := Below.next hWa.out hb3
                clear hb3
                go_wp2_with fail
                go_ret
                refine ⟨ret_bool (no_of hb2.out fun h => ?_).symm, hW2⟩
                have := (h.2.2.2.2.2.2 k hlt ka).1
                rw [HV.out] at this
                exact absurd this (by simp)
              · have HV := Lib.hid hv
                clear hv
                cases hq : nameB ns[k].text.data.toList
                · have HQ := Lib.hid hq
                  clear hq
                  go_wp2_with fail
                  refine (noted_any _ _ A2 n2 c2 ns[k] true _ z2 HV).mono ?_
                  rintro e w2 ⟨rfl, hb3⟩
                  have hW2 := Below.next hWa.out hb3
                  have HE2 := HE.out.next hb3
                  have y0 := HE2.cell 2
                  have y2 := HE2.lt
                  clear hb3 HE2
                  go_wp2_with fail
                  refine (iIsName_is HQ hsz _).mono ?_
                  rintro e w3 ⟨rfl, hb4⟩
                  have hW3 := Below.next hW2 hb4
                  clear hb4 y0 y2
                  go_wp2_with fail
                  go_ret
                  refine ⟨ret_bool (no_of hb2.out fun h => ?_).symm, hW3⟩
                  have := (h.2.2.2.2.2.2 k hlt ka).2
                  rw [HQ.out] at this
                  exact absurd this (by simp)
                · have HQ := Lib.hid hq
                  clear hq
                  have HM : Hid (∀ j, j < k + 1 → ∀ (h : j < ns.length), noB n2 ns[j] = true ∧ nameB ns[j].text.data.toList = true) := more_rows (p := fun j => ∀ (h : j < ns.length), noB n2 ns[j] = true ∧ nameB ns[j].text.data.toList = true) hall.out fun _ => ⟨HV.out, HQ.out⟩
                  go_wp2_with fail
                  refine (noted_any _ _ A2 n2 c2 ns[k] true _ z2 HV).mono ?_
                  rintro e w2 ⟨rfl, hb3⟩
                  have hW2 := Below.next hWa.out hb3
                  have HE2 := HE.out.next hb3
                  have HF2 := Lib.hid (HF.out.next hb3)
                  have y0 := HE2.cell 2
                  have y2 := HE2.lt
                  clear hb3 HE2
                  go_wp2_with fail
                  refine (iIsName_is HQ hsz _).mono ?_
                  rintro e w3 ⟨rfl, hb4⟩
                  have hW3 := Below.next hW2 hb4
                  have HF3 := Lib.hid (HF2.out.next hb4)
                  clear hb4 y0 y2
                  go_wp2_with fail
                  go_roundw
                  case rel => exact ⟨k + 1, by omega, by go_num, HM, HF3.out, hW3⟩
                  case measure => simp [intOf]; omega
            · have HNo : Hid (∀ j, j < n3 → ∀ (h : j < ns.length), noB n2 ns[j] = true ∧ nameB ns[j].text.data.toList = true) := fun j hj => hall.out j (by omega)
              go_wp2_with fail
              go_ret
              exact ⟨ret_bool (hb2.out.2 ⟨HN.out.1, HN.out.2.1, HN.out.2.2.1, HN.out.2.2.2, HC.out, HS.out, HNo.out⟩).symm, hW⟩
end Go.Proofs.YtmdmjnhebbhjbaaDoor
