/-
  The reference's text of a file.
-/
import Derived.Test.YtmdmjnhebbhjbaaDoorFTxI
namespace Go.Proofs.YtmdmjnhebbhjbaaDoor
set_option linter.unusedSimpArgs false
set_option linter.unusedVariables false
set_option maxRecDepth 20000
open Go.RowKit
open Go.ChangeShapes Go.WideShapes Go.Deep Go.Joins

set_option maxHeartbeats 4000000 in
theorem l03Join_any (A : Option Addr) (n c : Nat) (l : List Int) (w : World) (ha : Rd w A n 1 (rowOf iC l)) (hl : l.length = n) (hn : n ≤ 1048576) (hb : nums l) :
    Calls Tryd.prog 35 #[.slice A n c, .string ⟨#[44]⟩] w fun e w' => e = .returned (.string (bs (comL l))) ∧ Below w.heap.size w w' := by
  have HA := Lib.hid ha
  have HL := Lib.hid hl
  have HNB := Lib.hid hb
  clear ha hl hb
  go_enter Tryd.func35, Tryd.ntmps35
  go_wp2_with fail
  go_loopw [5, 6] (fun v i wr => ∃ k : Nat, k ≤ n ∧ i = .int .i64 (k : Int) ∧ v = .string (bs (comTo l k)) ∧ Below w.heap.size w wr) (fun _ i _ => n - (intOf i).toNat)
  case atStart => exact ⟨0, Nat.zero_le _, rfl, by rw [comTo_zero]; rfl, Below.refl _ _⟩
  case round =>
    obtain ⟨k, hk, rfl, rfl, hB⟩ := hrel
    have hBs := hB.size
    by_cases hlt : k < n
    · have ka : k < l.length := by rw [HL.out]; exact hlt
      obtain ⟨b1, o1, rfl, l1, c0⟩ := (HA.out.below hB).at iC_len HL.out ka
      have d0 : wr.cell? ⟨b1, o1 + k, none⟩ = some (.int .i64 l[k]) := by simpa using c0 0 _ rfl
      have hx := HNB.out _ (List.getElem_mem ka)
      have hle := comTo_le HNB.out k
      rw [HL.out] at hle
      have hi := itoa_len hx.1 hx.2
      have hnj : Hid (0 < k → comTo l (k + 1) = comTo l k ++ (44 :: Lib.itoa l[k])) := fun h => comTo_next ka h
      have hn0 : Hid (k = 0 → comTo l (k + 1) = comTo l k ++ Lib.itoa l[k]) := fun h => by subst h; exact comTo_next0 ka
      have HX := Lib.hid hx
      obtain ⟨x, hxe⟩ : ∃ x, l[k] = x := ⟨_, rfl⟩
      rw [hxe] at d0 HX hi hnj hn0
      have hk0 : (0 : Int) ≤ (k : Int) := by omega
      have hkn : (k : Int) < (n : Int) := by omega
      have g1 : (bs (comTo l k)).size ≤ 20971520 := by rw [bs_size]; omega
      have g2 : (bs (Lib.itoa x)).size ≤ 19 := by rw [bs_size]; exact hi
      have g3 : (⟨#[44]⟩ : ByteArray).size = 1 := rfl
      clear c0 hx hxe
      by_cases hkp : 0 < k
      · have hjd : decide (0 < k) = true := decide_eq_true hkp
        have hcat : Hid ((bs (comTo l k) ++ ⟨#[44]⟩) ++ bs (Lib.itoa x) = bs (comTo l (k + 1))) := by
          rw [Hid, hnj.out hkp, show (⟨#[44]⟩ : ByteArray) = bs [44] from rfl, bs_append, bs_append]
          simp
        go_wp2_with fail
        refine (l01Dec_bs x HX.out _).mono ?_
        rintro e w3 ⟨rfl, hb3⟩
        have hB3 := Below.next hB hb3
        clear hb3
        go_wp2_with fail
        go_roundw
        case rel => exact ⟨k + 1, by omega, by go_num, congrArg Value.string hcat.out, hB3⟩
        case measure => (simp [intOf]; try omega)
      · have hkz : k = 0 := by omega
        have hjd : decide (0 < k) = false := decide_eq_false hkp
        have HKZ := Lib.hid hkz
        clear hkz hkp
        have hcat : Hid (bs (comTo l k) ++ bs (Lib.itoa x) = bs (comTo l (k + 1))) := by
          rw [Hid, hn0.out HKZ.out, bs_append]
        go_wp2_with fail
        refine (l01Dec_bs x HX.out _).mono ?_
        rintro e w3 ⟨rfl, hb3⟩
        have hB3 := Below.next hB hb3
        clear hb3
        go_wp2_with fail
        go_roundw
        case rel => exact ⟨k + 1, by omega, by go_num, congrArg Value.string hcat.out, hB3⟩
        case measure => (simp [intOf]; try omega)
    · obtain rfl : k = n := by omega
      have hall : Hid (comTo l k = comL l) := comTo_all (by rw [HL.out]; exact Nat.le_refl _)
      go_wp2_with fail
      go_ret
      exact ⟨by rw [hall.out]; rfl, hB⟩
set_option maxHeartbeats 8000000 in
theorem sFileText_go (A1 A2 A3 : Option Addr) (c1 c2 c3 : Nat) (cs : List Ch) (ss : List (Sl (Sl Int))) (ns : List No) (p : FlP) (w : World) (h : FileRd w ⟨⟨A1, c1, cs⟩, ⟨A2, c2, ss⟩, ⟨A3, c3, ns⟩⟩) (hp : filePl ⟨⟨A1, c1, cs⟩, ⟨A2, c2, ss⟩, ⟨A3, c3, ns⟩⟩ = p) (hs : PlSz p) (ht : PlTx p) (hok : FileOk p) (b : Nat) (hbx : FBox w b ⟨⟨A1, c1, cs⟩, ⟨A2, c2, ss⟩, ⟨A3, c3, ns⟩⟩) :
    Calls Tryd.prog 13 #[.pointer (some ⟨b, 0, none⟩)] w fun e w' => e = .returned (.string (bs (fileTx p))) ∧ Below w.heap.size w w' := by
  have HPC : Hid (cs = p.ch) := congrArg FlP.ch hp
  have HPS : Hid (ss.map rowsK.pl = p.st) := congrArg FlP.st hp
  have HPN : Hid (ns = p.no) := congrArg FlP.no hp
  have HP := Lib.hid hp
  have HOK := Lib.hid hok
  have RSS : Hid (∀ a ∈ ss, rowsK.rd w a) := h.st.2
  obtain ⟨n1, hn1⟩ : ∃ n, cs.length = n := ⟨_, rfl⟩
  obtain ⟨n2, hn2⟩ : ∃ n, ss.length = n := ⟨_, rfl⟩
  obtain ⟨n3, hn3⟩ : ∃ n, ns.length = n := ⟨_, rfl⟩
  have RCH : Hid (Rd w A1 n1 4 (rowOf chC cs)) := by rw [← hn1]; exact h.ch.1
  have RST : Hid (Rd w A2 n2 1 (rowOf hdC ss)) := by rw [← hn2]; exact h.st.1
  have RNO : Hid (Rd w A3 n3 3 (rowOf noC ns)) := by rw [← hn3]; exact h.no.1
  have N1 := Lib.hid hn1
  have N2 := Lib.hid hn2
  have N3 := Lib.hid hn3
  have hb1 : n1 ≤ 6 := by rw [← hn1, show cs = p.ch from HPC.out]; exact hok.c6
  have hb2 : n2 ≤ 16 := by rw [← hn2, ← List.length_map (f := rowsK.pl), show ss.map rowsK.pl = p.st from HPS.out]; exact hok.s16
  have hb3 : n3 ≤ 12 := by rw [← hn3, show ns = p.no from HPN.out]; exact hok.n12
  have HALL : Hid (endLn (lnTo3 p n1 n2 n3) = fileTx p) := by
    have e1 : n1 = p.ch.length := by rw [← hn1, show cs = p.ch from HPC.out]
    have e2 : n2 = p.st.length := by rw [← hn2, ← List.length_map (f := rowsK.pl), show ss.map rowsK.pl = p.st from HPS.out]
    have e3 : n3 = p.no.length := by rw [← hn3, show ns = p.no from HPN.out]
    rw [Hid, e1, e2, e3]
    exact ln_all p
  have hbl := hbx.lt
  have Q0 : Hid (w.cell? ⟨b, 0, none⟩ = some (.slice A1 n1 c1)) := by rw [← hn1]; exact hbx.c0
  have Q1 : Hid (w.cell? ⟨b, 1, none⟩ = some (.slice A2 n2 c2)) := by rw [← hn2]; exact hbx.c1
  have Q2 : Hid (w.cell? ⟨b, 2, none⟩ = some (.slice A3 n3 c3)) := by rw [← hn3]; exact hbx.c2
  clear h hp hok hn1 hn2 hn3 hbx
  go_enter Tryd.func13, Tryd.ntmps13
  go_wp2_with fail
  go_loopw [3, 4] (fun v i wr => ∃ k : Nat, k ≤ n1 ∧ i = .int .i64 (k : Int) ∧ v = .string (bs (endLn (lnTo3 p k 0 0))) ∧ Below w.heap.size w wr) (fun _ i _ => n1 - (intOf i).toNat)
  case atStart => exact ⟨0, Nat.zero_le _, rfl, by rw [ln_zero]; rfl, Below.refl _ _⟩
  case round =>
    obtain ⟨wo, rfl⟩ : ∃ x, x = wr := ⟨wr, rfl⟩
    obtain ⟨k, hkk, rfl, rfl, hWwo⟩ := hrel
    have hswo := hWwo.size
    have q0wo : wo.cell? ⟨b, 0, none⟩ = some (.slice A1 n1 c1) := (hWwo.cell (p := ⟨b, 0, none⟩) hbl).trans Q0.out
    have q1wo : wo.cell? ⟨b, 1, none⟩ = some (.slice A2 n2 c2) := (hWwo.cell (p := ⟨b, 1, none⟩) hbl).trans Q1.out
    have q2wo : wo.cell? ⟨b, 2, none⟩ = some (.slice A3 n3 c3) := (hWwo.cell (p := ⟨b, 2, none⟩) hbl).trans Q2.out
    have hblwo : b < wo.heap.size := by omega
    have hle : Hid ((endLn (lnTo3 p k 0 0)).length ≤ 250000) := lnTo3_le HOK.out k 0 0
    by_cases hlt : k < n1
    · have ka : k < cs.length := by rw [N1.out]; exact hlt
      obtain ⟨b1, o1, rfl, l1, d⟩ := (RCH.out.below hWwo).at chC_len N1.out ka
      have hch := chB_all HOK.out cs[k] (by rw [← show cs = p.ch from HPC.out]; exact List.getElem_mem ka)
      have hnx := Lib.hid (ln_ch' HPC.out ka)
      obtain ⟨z1, z2⟩ := ok_ch hch
      obtain ⟨_, _, y1, y2, y3, y4⟩ := chB_nums hch
      obtain ⟨c, hc⟩ : ∃ c, cs[k] = c := ⟨_, rfl⟩
      rw [hc] at d hnx z1 z2 y1 y2 y3 y4
      have d0 : wo.cell? ⟨b1, o1 + k * 4, none⟩ = some (.string c.name) := d 0 _ rfl
      have d1 : wo.cell? ⟨b1, o1 + k * 4 + 1, none⟩ = some (.string c.unit) := d 1 _ rfl
      have d2 : wo.cell? ⟨b1, o1 + k * 4 + 2, none⟩ = some (.int .i64 c.low) := d 2 _ rfl
      have d3 : wo.cell? ⟨b1, o1 + k * 4 + 3, none⟩ = some (.int .i64 c.high) := d 3 _ rfl
      have hk0 : (0 : Int) ≤ (k : Int) := by omega
      have hkn : (k : Int) < (n1 : Int) := by omega
      have HN1 : Hid (-1000000000000000000 < c.low ∧ c.low < 1000000000000000000) := ⟨by omega, by omega⟩
      have HN2 : Hid (-1000000000000000000 < c.high ∧ c.high < 1000000000000000000) := ⟨by omega, by omega⟩
      obtain ⟨acc, hacc⟩ : ∃ acc, endLn (lnTo3 p k 0 0) = acc := ⟨_, rfl⟩
      rw [hacc] at hle hnx ⊢
      have hcat : Hid (bs acc ++ (((((((((⟨#[99, 104, 97, 110, 110, 101, 108, 32]⟩ : ByteArray) ++ c.name) ++ ⟨#[32]⟩) ++ c.unit) ++ ⟨#[32]⟩) ++ bs (Lib.itoa c.low)) ++ ⟨#[32]⟩) ++ bs (Lib.itoa c.high)) ++ ⟨#[10]⟩) = bs (endLn (lnTo3 p (k + 1) 0 0))) := by rw [Hid, chs_cat, hnx.out, bs_append]
      have i1 := itoa_19 y1 y2
      have i2 := itoa_19 y3 y4
      have g0 : (bs acc).size ≤ 250000 := by rw [bs_size]; exact hle.out
      have g1 : (bs (Lib.itoa c.low)).size ≤ 19 := by rw [bs_size]; exact i1
      have g2 : (bs (Lib.itoa c.high)).size ≤ 19 := by rw [bs_size]; exact i2
      have g3 : (⟨#[99, 104, 97, 110, 110, 101, 108, 32]⟩ : ByteArray).size = 8 := rfl
      have g4 : (⟨#[32]⟩ : ByteArray).size = 1 := rfl
      have g5 : (⟨#[10]⟩ : ByteArray).size = 1 := rfl
      have s1 : ¬ 9223372036854775807 < 8 + c.name.size := by omega
      have s2 : ¬ 9223372036854775807 < 8 + c.name.size + 1 := by omega
      have s3 : ¬ 9223372036854775807 < 8 + c.name.size + 1 + c.unit.size := by omega
      have s4 : ¬ 9223372036854775807 < 8 + c.name.size + 1 + c.unit.size + 1 := by omega
      have s5 : ¬ 9223372036854775807 < 8 + c.name.size + 1 + c.unit.size + 1 + (bs (Lib.itoa c.low)).size := by omega
      have s6 : ¬ 9223372036854775807 < 8 + c.name.size + 1 + c.unit.size + 1 + (bs (Lib.itoa c.low)).size + 1 := by omega
      have s7 : ¬ 9223372036854775807 < 8 + c.name.size + 1 + c.unit.size + 1 + (bs (Lib.itoa c.low)).size + 1 + (bs (Lib.itoa c.high)).size := by omega
      have s8 : ¬ 9223372036854775807 < 8 + c.name.size + 1 + c.unit.size + 1 + (bs (Lib.itoa c.low)).size + 1 + (bs (Lib.itoa c.high)).size + 1 := by omega
      have s9 : ¬ 9223372036854775807 < (bs acc).size + (8 + c.name.size + 1 + c.unit.size + 1 + (bs (Lib.itoa c.low)).size + 1 + (bs (Lib.itoa c.high)).size + 1) := by omega
      clear d hc hacc hch y1 y2 y3 y4
      go_wp2_with fail
      refine wp_region_held_drew (S := (fun w' => (∀ kb ko, kb < wo.heap.size → w'.cell? ⟨kb, ko, none⟩ = wo.cell? ⟨kb, ko, none⟩) ∧ wo.heap.size ≤ w'.heap.size ∧ Below wo.heap.size wo w')) (by kernel_rfl) ?_ (fun hHeld => ?_)
      · (try dsimp only); (first | exact SB.mk hkB | exact SB.mk ((Below.refl _ _).drew) | (go_split_ands; refine SB.mk (Below.drew ?_); assumption) | (refine SB.mk ?_; go_grown; done) | (go_split_ands; refine SB.mk ?_; go_grown; done))
      first | (refine take_on (i := 0) (v := ?_) rfl (by kernel_rfl) (by kernel_rfl) (by kernel_rfl) (fun _ _ _ h => h) rfl ?_ (by assumption) ?_; rotate_left; · (intro w' hSw; (try dsimp only at hSw); go_simp; (try with_reducible rfl))) | (refine take_off (i := 0) rfl (by kernel_rfl) (by kernel_rfl) (by kernel_rfl) (fun _ _ _ h => h) rfl (by assumption) ?_)
      (try simp only [Act.put, List.setIfInBounds_toArray, List.set_cons_zero, List.set_cons_succ])
      first | (refine take_on (i := 1) (v := ?_) rfl (by kernel_rfl) (by kernel_rfl) (by kernel_rfl) (fun _ _ _ h => h) rfl ?_ (by assumption) ?_; rotate_left; · (intro w' hSw; (try dsimp only at hSw); go_simp; (try with_reducible rfl))) | (refine take_off (i := 1) rfl (by kernel_rfl) (by kernel_rfl) (by kernel_rfl) (fun _ _ _ h => h) rfl (by assumption) ?_)
      (try simp only [Act.put, List.setIfInBounds_toArray, List.set_cons_zero, List.set_cons_succ])
      first | (refine take_on (i := 2) (v := ?_) rfl (by kernel_rfl) (by kernel_rfl) (by kernel_rfl) (fun _ _ _ h => h) rfl ?_ (by assumption) ?_; rotate_left; · (intro w' hSw; (try dsimp only at hSw); go_simp; (try with_reducible rfl))) | (refine take_off (i := 2) rfl (by kernel_rfl) (by kernel_rfl) (by kernel_rfl) (fun _ _ _ h => h) rfl (by assumption) ?_)
      (try simp only [Act.put, List.setIfInBounds_toArray, List.set_cons_zero, List.set_cons_succ])
      first | (refine take_on (i := 3) (v := ?_) rfl (by kernel_rfl) (by kernel_rfl) (by kernel_rfl) (fun _ _ _ h => h) rfl ?_ (by assumption) ?_; rotate_left; · (intro w' hSw; (try dsimp only at hSw); go_simp; (try with_reducible rfl))) | (refine take_off (i := 3) rfl (by kernel_rfl) (by kernel_rfl) (by kernel_rfl) (fun _ _ _ h => h) rfl (by assumption) ?_)
      (try simp only [Act.put, List.setIfInBounds_toArray, List.set_cons_zero, List.set_cons_succ])
      first | (refine take_on (i := 4) (v := ?_) rfl (by kernel_rfl) (by kernel_rfl) (by kernel_rfl) (fun _ _ _ h => h) rfl ?_ (by assumption) ?_; rotate_left; · (intro w' hSw; (try dsimp only at hSw); go_simp; (try with_reducible rfl))) | (refine take_off (i := 4) rfl (by kernel_rfl) (by kernel_rfl) (by kernel_rfl) (fun _ _ _ h => h) rfl (by assumption) ?_)
      (try simp only [Act.put, List.setIfInBounds_toArray, List.set_cons_zero, List.set_cons_succ])
      first | (refine take_on (i := 5) (v := ?_) rfl (by kernel_rfl) (by kernel_rfl) (by kernel_rfl) (fun _ _ _ h => h) rfl ?_ (by assumption) ?_; rotate_left; · (intro w' hSw; (try dsimp only at hSw); go_simp; (try with_reducible rfl))) | (refine take_off (i := 5) rfl (by kernel_rfl) (by kernel_rfl) (by kernel_rfl) (fun _ _ _ h => h) rfl (by assumption) ?_)
      (try simp only [Act.put, List.setIfInBounds_toArray, List.set_cons_zero, List.set_cons_succ])
      first | (refine take_on (i := 6) (v := ?_) rfl (by kernel_rfl) (by kernel_rfl) (by kernel_rfl) (fun _ _ _ h => h) rfl ?_ (by assumption) ?_; rotate_left; · (intro w' hSw; (try dsimp only at hSw); go_simp; (try with_reducible rfl))) | (refine take_off (i := 6) rfl (by kernel_rfl) (by kernel_rfl) (by kernel_rfl) (fun _ _ _ h => h) rfl (by assumption) ?_)
      (try simp only [Act.put, List.setIfInBounds_toArray, List.set_cons_zero, List.set_cons_succ])
      first | (refine take_on (i := 7) (v := ?_) rfl (by kernel_rfl) (by kernel_rfl) (by kernel_rfl) (fun _ _ _ h => h) rfl ?_ (by assumption) ?_; rotate_left; · (intro w' hSw; (try dsimp only at hSw); go_simp; (try with_reducible rfl))) | (refine take_off (i := 7) rfl (by kernel_rfl) (by kernel_rfl) (by kernel_rfl) (fun _ _ _ h => h) rfl (by assumption) ?_)
      (try simp only [Act.put, List.setIfInBounds_toArray, List.set_cons_zero, List.set_cons_succ])
      first | (refine take_on (i := 8) (v := ?_) rfl (by kernel_rfl) (by kernel_rfl) (by kernel_rfl) (fun _ _ _ h => h) rfl ?_ (by assumption) ?_; rotate_left; · (intro w' hSw; (try dsimp only at hSw); go_simp; (try with_reducible rfl))) | (refine take_off (i := 8) rfl (by kernel_rfl) (by kernel_rfl) (by kernel_rfl) (fun _ _ _ h => h) rfl (by assumption) ?_)
      (try simp only [Act.put, List.setIfInBounds_toArray, List.set_cons_zero, List.set_cons_succ])
      first | (refine take_on (i := 9) (v := ?_) rfl (by kernel_rfl) (by kernel_rfl) (by kernel_rfl) (fun _ _ _ h => h) rfl ?_ (by assumption) ?_; rotate_left; · (intro w' hSw; (try dsimp only at hSw); go_simp; (try with_reducible rfl))) | (refine take_off (i := 9) rfl (by kernel_rfl) (by kernel_rfl) (by kernel_rfl) (fun _ _ _ h => h) rfl (by assumption) ?_)
      (try simp only [Act.put, List.setIfInBounds_toArray, List.set_cons_zero, List.set_cons_succ])
      first | (refine take_on (i := 10) (v := ?_) rfl (by kernel_rfl) (by kernel_rfl) (by kernel_rfl) (fun _ _ _ h => h) rfl ?_ (by assumption) ?_; rotate_left; · (intro w' hSw; (try dsimp only at hSw); go_simp; (try with_reducible rfl))) | (refine take_off (i := 10) rfl (by kernel_rfl) (by kernel_rfl) (by kernel_rfl) (fun _ _ _ h => h) rfl (by assumption) ?_)
      (try simp only [Act.put, List.setIfInBounds_toArray, List.set_cons_zero, List.set_cons_succ])
      first | (refine take_on (i := 11) (v := ?_) rfl (by kernel_rfl) (by kernel_rfl) (by kernel_rfl) (fun _ _ _ h => h) rfl ?_ (by assumption) ?_; rotate_left; · (intro w' hSw; (try dsimp only at hSw); go_simp; (try with_reducible rfl))) | (refine take_off (i := 11) rfl (by kernel_rfl) (by kernel_rfl) (by kernel_rfl) (fun _ _ _ h => h) rfl (by assumption) ?_)
      (try simp only [Act.put, List.setIfInBounds_toArray, List.set_cons_zero, List.set_cons_succ])
      first | (refine take_on (i := 12) (v := ?_) rfl (by kernel_rfl) (by kernel_rfl) (by kernel_rfl) (fun _ _ _ h => h) rfl ?_ (by assumption) ?_; rotate_left; · (intro w' hSw; (try dsimp only at hSw); go_simp; (try with_reducible rfl))) | (refine take_off (i := 12) rfl (by kernel_rfl) (by kernel_rfl) (by kernel_rfl) (fun _ _ _ h => h) rfl (by assumption) ?_)
      (try simp only [Act.put, List.setIfInBounds_toArray, List.set_cons_zero, List.set_cons_succ])
      first | (refine take_on (i := 13) (v := ?_) rfl (by kernel_rfl) (by kernel_rfl) (by kernel_rfl) (fun _ _ _ h => h) rfl ?_ (by assumption) ?_; rotate_left; · (intro w' hSw; (try dsimp only at hSw); go_simp; (try with_reducible rfl))) | (refine take_off (i := 13) rfl (by kernel_rfl) (by kernel_rfl) (by kernel_rfl) (fun _ _ _ h => h) rfl (by assumption) ?_)
      (try simp only [Act.put, List.setIfInBounds_toArray, List.set_cons_zero, List.set_cons_succ])
      first | (refine take_on (i := 14) (v := ?_) rfl (by kernel_rfl) (by kernel_rfl) (by kernel_rfl) (fun _ _ _ h => h) rfl ?_ (by assumption) ?_; rotate_left; · (intro w' hSw; (try dsimp only at hSw); go_simp; (try with_reducible rfl))) | (refine take_off (i := 14) rfl (by kernel_rfl) (by kernel_rfl) (by kernel_rfl) (fun _ _ _ h => h) rfl (by assumption) ?_)
      (try simp only [Act.put, List.setIfInBounds_toArray, List.set_cons_zero, List.set_cons_succ])
      first | (refine take_on (i := 15) (v := ?_) rfl (by kernel_rfl) (by kernel_rfl) (by kernel_rfl) (fun _ _ _ h => h) rfl ?_ (by assumption) ?_; rotate_left; · (intro w' hSw; (try dsimp only at hSw); go_simp; (try with_reducible rfl))) | (refine take_off (i := 15) rfl (by kernel_rfl) (by kernel_rfl) (by kernel_rfl) (fun _ _ _ h => h) rfl (by assumption) ?_)
      (try simp only [Act.put, List.setIfInBounds_toArray, List.set_cons_zero, List.set_cons_succ])
      first | (refine take_on (i := 16) (v := ?_) rfl (by kernel_rfl) (by kernel_rfl) (by kernel_rfl) (fun _ _ _ h => h) rfl ?_ (by assumption) ?_; rotate_left; · (intro w' hSw; (try dsimp only at hSw); go_simp; (try with_reducible rfl))) | (refine take_off (i := 16) rfl (by kernel_rfl) (by kernel_rfl) (by kernel_rfl) (fun _ _ _ h => h) rfl (by assumption) ?_)
      (try simp only [Act.put, List.setIfInBounds_toArray, List.set_cons_zero, List.set_cons_succ])
      first | (refine take_on (i := 20) (v := ?_) rfl (by kernel_rfl) (by kernel_rfl) (by kernel_rfl) (fun _ _ _ h => h) rfl ?_ (by assumption) ?_; rotate_left; · (intro w' hSw; (try dsimp only at hSw); go_simp; (try with_reducible rfl))) | (refine take_off (i := 20) rfl (by kernel_rfl) (by kernel_rfl) (by kernel_rfl) (fun _ _ _ h => h) rfl (by assumption) ?_)
      (try simp only [Act.put, List.setIfInBounds_toArray, List.set_cons_zero, List.set_cons_succ])
      first | (refine take_on (i := 21) (v := ?_) rfl (by kernel_rfl) (by kernel_rfl) (by kernel_rfl) (fun _ _ _ h => h) rfl ?_ (by assumption) ?_; rotate_left; · (intro w' hSw; (try dsimp only at hSw); go_simp; (try with_reducible rfl))) | (refine take_off (i := 21) rfl (by kernel_rfl) (by kernel_rfl) (by kernel_rfl) (fun _ _ _ h => h) rfl (by assumption) ?_)
      (try simp only [Act.put, List.setIfInBounds_toArray, List.set_cons_zero, List.set_cons_succ])
      first | (refine take_on (i := 22) (v := ?_) rfl (by kernel_rfl) (by kernel_rfl) (by kernel_rfl) (fun _ _ _ h => h) rfl ?_ (by assumption) ?_; rotate_left; · (intro w' hSw; (try dsimp only at hSw); go_simp; (try with_reducible rfl))) | (refine take_off (i := 22) rfl (by kernel_rfl) (by kernel_rfl) (by kernel_rfl) (fun _ _ _ h => h) rfl (by assumption) ?_)
      (try simp only [Act.put, List.setIfInBounds_toArray, List.set_cons_zero, List.set_cons_succ])
      first | (refine take_on (i := 23) (v := ?_) rfl (by kernel_rfl) (by kernel_rfl) (by kernel_rfl) (fun _ _ _ h => h) rfl ?_ (by assumption) ?_; rotate_left; · (intro w' hSw; (try dsimp only at hSw); go_simp; (try with_reducible rfl))) | (refine take_off (i := 23) rfl (by kernel_rfl) (by kernel_rfl) (by kernel_rfl) (fun _ _ _ h => h) rfl (by assumption) ?_)
      (try simp only [Act.put, List.setIfInBounds_toArray, List.set_cons_zero, List.set_cons_succ])
      refine wpAnyH_ready (rs := [17]) (by kernel_rfl) (by simp) ?_
      refine AllReadyH.cons rfl (fun K hK => ?_) AllReadyH.nil
      rw [if_pos (by rfl)]
      go_simp
      first | (go_at_call 34; (with_reducible refine (l01Dec_bs c.low HN1.out _).mono ?_); rintro e wA ⟨rfl, hb⟩; have hkB : Below wo.heap.size wo wA := Below.next (by go_grown) hb; clear hb) | (go_at_call 34; (with_reducible refine (l01Dec_bs c.high HN2.out _).mono ?_); rintro e wB ⟨rfl, hb⟩; have hkB' : Below wo.heap.size wo wB := Below.next hkB hb; clear hb hkB; have hkB := hkB'; clear hkB')
      refine hK.out _ _ ?_ (fun hHeld2 => ?_)
      · (try dsimp only); (first | exact SB.mk hkB | exact SB.mk ((Below.refl _ _).drew) | (go_split_ands; refine SB.mk (Below.drew ?_); assumption) | (refine SB.mk ?_; go_grown; done) | (go_split_ands; refine SB.mk ?_; go_grown; done))
      clear hK K hHeld; have hHeld := hHeld2; clear hHeld2; (try simp only [Act.put, List.setIfInBounds_toArray, List.set_cons_zero, List.set_cons_succ])
      first | (refine take_on (i := 18) (v := ?_) rfl (by kernel_rfl) (by kernel_rfl) (by kernel_rfl) (fun _ _ _ h => h) rfl ?_ (by assumption) ?_; rotate_left; · (intro w' hSw; (try dsimp only at hSw); go_simp; (try with_reducible rfl))) | (refine take_off (i := 18) rfl (by kernel_rfl) (by kernel_rfl) (by kernel_rfl) (fun _ _ _ h => h) rfl (by assumption) ?_)
      (try simp only [Act.put, List.setIfInBounds_toArray, List.set_cons_zero, List.set_cons_succ])
      first | (refine take_on (i := 19) (v := ?_) rfl (by kernel_rfl) (by kernel_rfl) (by kernel_rfl) (fun _ _ _ h => h) rfl ?_ (by assumption) ?_; rotate_left; · (intro w' hSw; (try dsimp only at hSw); go_simp; (try with_reducible rfl))) | (refine take_off (i := 19) rfl (by kernel_rfl) (by kernel_rfl) (by kernel_rfl) (fun _ _ _ h => h) rfl (by assumption) ?_)
      (try simp only [Act.put, List.setIfInBounds_toArray, List.set_cons_zero, List.set_cons_succ])
      refine wpAnyH_ready (rs := [24]) (by kernel_rfl) (by simp) ?_
      refine AllReadyH.cons rfl (fun K hK => ?_) AllReadyH.nil
      rw [if_pos (by rfl)]
      go_simp
      first | (go_at_call 34; (with_reducible refine (l01Dec_bs c.low HN1.out _).mono ?_); rintro e wA ⟨rfl, hb⟩; have hkB : Below wo.heap.size wo wA := Below.next (by go_grown) hb; clear hb) | (go_at_call 34; (with_reducible refine (l01Dec_bs c.high HN2.out _).mono ?_); rintro e wB ⟨rfl, hb⟩; have hkB' : Below wo.heap.size wo wB := Below.next hkB hb; clear hb hkB; have hkB := hkB'; clear hkB')
      refine hK.out _ _ ?_ (fun hHeld2 => ?_)
      · (try dsimp only); (first | exact SB.mk hkB | exact SB.mk ((Below.refl _ _).drew) | (go_split_ands; refine SB.mk (Below.drew ?_); assumption) | (refine SB.mk ?_; go_grown; done) | (go_split_ands; refine SB.mk ?_; go_grown; done))
      clear hK K hHeld; have hHeld := hHeld2; clear hHeld2; (try simp only [Act.put, List.setIfInBounds_toArray, List.set_cons_zero, List.set_cons_succ])
      first | (refine take_on (i := 25) (v := ?_) rfl (by kernel_rfl) (by kernel_rfl) (by kernel_rfl) (fun _ _ _ h => h) rfl ?_ (by assumption) ?_; rotate_left; · (intro w' hSw; (try dsimp only at hSw); go_simp; (try with_reducible rfl))) | (refine take_off (i := 25) rfl (by kernel_rfl) (by kernel_rfl) (by kernel_rfl) (fun _ _ _ h => h) rfl (by assumption) ?_)
      (try simp only [Act.put, List.setIfInBounds_toArray, List.set_cons_zero, List.set_cons_succ])
      first | (refine take_on (i := 26) (v := ?_) rfl (by kernel_rfl) (by kernel_rfl) (by kernel_rfl) (fun _ _ _ h => h) rfl ?_ (by assumption) ?_; rotate_left; · (intro w' hSw; (try dsimp only at hSw); go_simp; (try with_reducible rfl))) | (refine take_off (i := 26) rfl (by kernel_rfl) (by kernel_rfl) (by kernel_rfl) (fun _ _ _ h => h) rfl (by assumption) ?_)
      (try simp only [Act.put, List.setIfInBounds_toArray, List.set_cons_zero, List.set_cons_succ])
      first | (refine take_on (i := 27) (v := ?_) rfl (by kernel_rfl) (by kernel_rfl) (by kernel_rfl) (fun _ _ _ h => h) rfl ?_ (by assumption) ?_; rotate_left; · (intro w' hSw; (try dsimp only at hSw); go_simp; (try with_reducible rfl))) | (refine take_off (i := 27) rfl (by kernel_rfl) (by kernel_rfl) (by kernel_rfl) (fun _ _ _ h => h) rfl (by assumption) ?_)
      (try simp only [Act.put, List.setIfInBounds_toArray, List.set_cons_zero, List.set_cons_succ])
      first | (refine take_on (i := 28) (v := ?_) rfl (by kernel_rfl) (by kernel_rfl) (by kernel_rfl) (fun _ _ _ h => h) rfl ?_ (by assumption) ?_; rotate_left; · (intro w' hSw; (try dsimp only at hSw); go_simp; (try with_reducible rfl))) | (refine take_off (i := 28) rfl (by kernel_rfl) (by kernel_rfl) (by kernel_rfl) (fun _ _ _ h => h) rfl (by assumption) ?_)
      (try simp only [Act.put, List.setIfInBounds_toArray, List.set_cons_zero, List.set_cons_succ])
      refine wpAnyH_done (by kernel_rfl) ?_ _
      have hhB : Below wo.heap.size wo wB := hHeld.2.2
      clear hHeld hkB
      go_wp2_with fail
      go_roundw
      case rel => exact ⟨k + 1, by omega, by go_num, congrArg Value.string hcat.out, Below.next hWwo hhB⟩
      case measure => (simp [intOf]; try omega)
    · obtain rfl : k = n1 := by omega
      go_wp2_with fail
      go_loopw [3, 6] (fun v i wr => ∃ k2 : Nat, k2 ≤ n2 ∧ i = .int .i64 (k2 : Int) ∧ v = .string (bs (endLn (lnTo3 p k k2 0))) ∧ Below w.heap.size w wr) (fun _ i _ => n2 - (intOf i).toNat)
      case atStart => exact ⟨0, Nat.zero_le _, rfl, rfl, hWwo⟩
      case round =>
        obtain ⟨wp, rfl⟩ : ∃ x, x = wr := ⟨wr, rfl⟩
        obtain ⟨k2, hkk2, rfl, rfl, hWwp⟩ := hrel
        have hswp := hWwp.size
        have q0wp : wp.cell? ⟨b, 0, none⟩ = some (.slice A1 k c1) := (hWwp.cell (p := ⟨b, 0, none⟩) hbl).trans Q0.out
        have q1wp : wp.cell? ⟨b, 1, none⟩ = some (.slice A2 n2 c2) := (hWwp.cell (p := ⟨b, 1, none⟩) hbl).trans Q1.out
        have q2wp : wp.cell? ⟨b, 2, none⟩ = some (.slice A3 n3 c3) := (hWwp.cell (p := ⟨b, 2, none⟩) hbl).trans Q2.out
        have hblwp : b < wp.heap.size := by omega
        have hle2 : Hid ((endLn (lnTo3 p k k2 0)).length ≤ 250000) := lnTo3_le HOK.out k k2 0
        by_cases hlt2 : k2 < n2
        · have ka : k2 < ss.length := by rw [N2.out]; exact hlt2
          obtain ⟨b1, o1, rfl, l1, d⟩ := (RST.out).at hdC_len N2.out ka
          have hrs := RSS.out _ (List.getElem_mem ka)
          obtain ⟨s, hnx0, hsm, hsl, hsj⟩ := ln_st' (i := k) HPS.out ka
          obtain ⟨h60, hrw⟩ := ok_rows HOK.out s hsm
          obtain ⟨Ar, cr, l, hr⟩ : ∃ Ar cr l, ss[k2] = ⟨Ar, cr, l⟩ := ⟨ss[k2].A, ss[k2].c, ss[k2].l, rfl⟩
          rw [hr] at hrs hsl hsj d
          have d0 : w.cell? ⟨b1, o1 + k2, none⟩ = some (.slice Ar l.length cr) := by simpa [hdC, Sl.val] using d 0 _ rfl
          have hsl' : s.length = l.length := hsl
          have hsj' : ∀ j (h1 : j < l.length) (h2 : j < s.length), s[j] = l[j].l := hsj
          obtain ⟨q, hq⟩ : ∃ q, l.length = q := ⟨_, rfl⟩
          have rm : Rd w Ar l.length 1 (rowOf hdC l) := hrs.1
          have rm2 : ∀ a ∈ l, rowK.rd w a := hrs.2
          rw [hq] at rm d0 hsl'
          have hq60 : q ≤ 60 := by omega
          have RM := Lib.hid rm
          have RM2 := Lib.hid rm2
          have LQ := Lib.hid hq
          have HSJ := Lib.hid hsj'
          have HSL := Lib.hid hsl'
          have HRW := Lib.hid hrw
          have HNX := Lib.hid hnx0
          have D0 := Lib.hid d0
          have hk0 : (0 : Int) ≤ (k2 : Int) := by omega
          have hkn : (k2 : Int) < (n2 : Int) := by omega
          obtain ⟨acc, hacc⟩ : ∃ acc, endLn (lnTo3 p k k2 0) = acc := ⟨_, rfl⟩
          rw [hacc] at hle2 HNX ⊢
          have hAL := hle2.out
          have g0 : (bs acc).size ≤ 250000 := by rw [bs_size]; exact hAL
          have g1 : (⟨#[115, 116, 114, 111, 107, 101]⟩ : ByteArray).size = 6 := rfl
          have hst0 : Hid (bs acc ++ ⟨#[115, 116, 114, 111, 107, 101]⟩ = bs (acc ++ stTo s 0)) := by rw [stTo_zero, Hid, show (⟨#[115, 116, 114, 111, 107, 101]⟩ : ByteArray) = bs wSt from rfl, bs_append]
          clear d hr hrs hsl hsj hsl' hsj' hq rm rm2 hrw hnx0 hsm hacc h60 d0
          go_wp2_with fail
          clear g0 g1
          go_loopw [3, 7] (fun v i wr => ∃ j : Nat, j ≤ q ∧ i = .int .i64 (j : Int) ∧ v = .string (bs (acc ++ stTo s j)) ∧ Below w.heap.size w wr) (fun _ i _ => q - (intOf i).toNat)
          case atStart => exact ⟨0, Nat.zero_le _, rfl, congrArg Value.string hst0.out, hWwp⟩
          case round =>
            obtain ⟨wq, rfl⟩ : ∃ x, x = wr := ⟨wr, rfl⟩
            obtain ⟨j, hkj, rfl, rfl, hWwq⟩ := hrel
            have hswq := hWwq.size
            have q0wq : wq.cell? ⟨b, 0, none⟩ = some (.slice A1 k c1) := (hWwq.cell (p := ⟨b, 0, none⟩) hbl).trans Q0.out
            have q1wq : wq.cell? ⟨b, 1, none⟩ = some (.slice (some ⟨b1, o1, none⟩) n2 c2) := (hWwq.cell (p := ⟨b, 1, none⟩) hbl).trans Q1.out
            have q2wq : wq.cell? ⟨b, 2, none⟩ = some (.slice A3 n3 c3) := (hWwq.cell (p := ⟨b, 2, none⟩) hbl).trans Q2.out
            have hblwq : b < wq.heap.size := by omega
            have hst := stTo_le HRW.out j (by rw [HSL.out]; exact hkj)
            have d0 : wq.cell? ⟨b1, o1 + k2, none⟩ = some (.slice Ar q cr) := (hWwq.cell (p := ⟨b1, o1 + k2, none⟩) l1).trans D0.out
            have g0 : (bs (acc ++ stTo s j)).size ≤ 300000 := by rw [bs_size, List.length_append]; omega
            by_cases hjlt : j < q
            · have kj : j < l.length := by rw [LQ.out]; exact hjlt
              have ks : j < s.length := by rw [HSL.out]; exact hjlt
              obtain ⟨b2, o2, rfl, l2, d2⟩ := (RM.out.below hWwq).at hdC_len LQ.out kj
              have hrr := RM2.out _ (List.getElem_mem kj)
              obtain ⟨hnum, h6⟩ := HRW.out _ (List.getElem_mem ks)
              have hnj := stTo_next ks
              have hsj := HSJ.out j kj ks
              rw [hsj] at hnum h6 hnj
              obtain ⟨A3', c3', r, hr⟩ : ∃ A3 c3 r, l[j] = ⟨A3, c3, r⟩ := ⟨l[j].A, l[j].c, l[j].l, rfl⟩
              rw [hr] at hrr hnum h6 hnj d2
              have d3 : wq.cell? ⟨b2, o2 + j, none⟩ = some (.slice A3' r.length c3') := by simpa [hdC, Sl.val] using d2 0 _ rfl
              have hnum' : nums r := hnum
              have h6' : r.length ≤ 6 := h6
              have hcl := comL_6 hnum' h6'
              have hrd : Rd wq A3' r.length 1 (rowOf iC r) := (show Rd w A3' r.length 1 (rowOf iC r) from hrr.1).below hWwq
              have hnj' : stTo s (j + 1) = stTo s j ++ (32 :: comL r) := hnj
              have HNJ := Lib.hid hnj'
              have HRD := Lib.hid hrd
              have HNUM := Lib.hid hnum'
              obtain ⟨rl, hrl⟩ : ∃ n, r.length = n := ⟨_, rfl⟩
              rw [hrl] at d3 HRD h6'
              have HRL := Lib.hid hrl
              have hj0 : (0 : Int) ≤ (j : Int) := by omega
              have hjn : (j : Int) < (q : Int) := by omega
              have g1 : (⟨#[32]⟩ : ByteArray).size = 1 := rfl
              have g2 : (bs (comL r)).size ≤ 120 := by rw [bs_size]; exact hcl
              have hcat : Hid (bs (acc ++ stTo s j) ++ ((⟨#[32]⟩ : ByteArray) ++ bs (comL r)) = bs (acc ++ stTo s (j + 1))) := by rw [Hid, HNJ.out, show (⟨#[32]⟩ : ByteArray) = bs [32] from rfl, bs_append, bs_append]; simp
              clear hsj hr hrr hnum h6 hnj d2 hrd hnj' hnum' hrl
              go_wp2_with fail
              refine (l03Join_any A3' rl c3' r _ HRD.out HRL.out (by omega) HNUM.out).mono ?_
              rintro e w6 ⟨rfl, hb6⟩
              have hW6 := Below.next hWwq hb6
              clear hb6 d3
              go_wp2_with fail
              go_roundw
              case rel => exact ⟨j + 1, by omega, by go_num, congrArg Value.string hcat.out, hW6⟩
              case measure => (simp [intOf]; try omega)
            · obtain rfl : j = q := by omega
              have hall : Hid (stTo s j = stTx s) := stTo_all (by rw [HSL.out]; exact Nat.le_refl _)
              have g1 : (⟨#[10]⟩ : ByteArray).size = 1 := rfl
              have hcat : Hid (bs (acc ++ stTo s j) ++ (⟨#[10]⟩ : ByteArray) = bs (endLn (lnTo3 p k (k2 + 1) 0))) := by rw [Hid, HNX.out, ← hall.out, show (⟨#[10]⟩ : ByteArray) = bs [10] from rfl, bs_append]; simp
              go_wp2_with fail
              go_roundw
              case rel => exact ⟨k2 + 1, by omega, by go_num, congrArg Value.string hcat.out, hWwq⟩
              case measure => (simp [intOf]; try omega)
        · obtain rfl : k2 = n2 := by omega
          go_wp2_with fail
          go_loopw [3, 8] (fun v i wr => ∃ k3 : Nat, k3 ≤ n3 ∧ i = .int .i64 (k3 : Int) ∧ v = .string (bs (endLn (lnTo3 p k k2 k3))) ∧ Below w.heap.size w wr) (fun _ i _ => n3 - (intOf i).toNat)
          case atStart => exact ⟨0, Nat.zero_le _, rfl, rfl, hWwp⟩
          case round =>
            obtain ⟨wx, rfl⟩ : ∃ x, x = wr := ⟨wr, rfl⟩
            obtain ⟨k3, hkk3, rfl, rfl, hWwx⟩ := hrel
            have hswx := hWwx.size
            have q0wx : wx.cell? ⟨b, 0, none⟩ = some (.slice A1 k c1) := (hWwx.cell (p := ⟨b, 0, none⟩) hbl).trans Q0.out
            have q1wx : wx.cell? ⟨b, 1, none⟩ = some (.slice A2 k2 c2) := (hWwx.cell (p := ⟨b, 1, none⟩) hbl).trans Q1.out
            have q2wx : wx.cell? ⟨b, 2, none⟩ = some (.slice A3 n3 c3) := (hWwx.cell (p := ⟨b, 2, none⟩) hbl).trans Q2.out
            have hblwx : b < wx.heap.size := by omega
            have hle4 : Hid ((endLn (lnTo3 p k k2 k3)).length ≤ 250000) := lnTo3_le HOK.out k k2 k3
            by_cases hlt3 : k3 < n3
            · have ka : k3 < ns.length := by rw [N3.out]; exact hlt3
              obtain ⟨b1, o1, rfl, l1, d⟩ := (RNO.out.below hWwx).at noC_len N3.out ka
              have hno := HOK.out.nos ns[k3] (by rw [← show ns = p.no from HPN.out]; exact List.getElem_mem ka)
              have hnx := Lib.hid (ln_no' (i := k) (j := k2) HPN.out ka)
              have hbd := noB_bd hno.1 HOK.out.s16
              have hnm := (nameB_ok hno.2).2
              obtain ⟨c, hc⟩ : ∃ c, ns[k3] = c := ⟨_, rfl⟩
              rw [hc] at d hnx hbd hnm
              have htx : c.text.size ≤ 12 := hnm
              have d0 : wx.cell? ⟨b1, o1 + k3 * 3, none⟩ = some (.int .i64 c.fr) := d 0 _ rfl
              have d1 : wx.cell? ⟨b1, o1 + k3 * 3 + 1, none⟩ = some (.int .i64 c.til) := d 1 _ rfl
              have d2 : wx.cell? ⟨b1, o1 + k3 * 3 + 2, none⟩ = some (.string c.text) := d 2 _ rfl
              have hk0 : (0 : Int) ≤ (k3 : Int) := by omega
              have hkn : (k3 : Int) < (n3 : Int) := by omega
              have HN1 : Hid (-1000000000000000000 < c.fr ∧ c.fr < 1000000000000000000) := ⟨by omega, by omega⟩
              have HN2 : Hid (-1000000000000000000 < c.til ∧ c.til < 1000000000000000000) := ⟨by omega, by omega⟩
              obtain ⟨acc, hacc⟩ : ∃ acc, endLn (lnTo3 p k k2 k3) = acc := ⟨_, rfl⟩
              rw [hacc] at hle4 hnx ⊢
              have hcat : Hid (bs acc ++ (((((((⟨#[110, 111, 116, 101, 32]⟩ : ByteArray) ++ bs (Lib.itoa c.fr)) ++ ⟨#[32]⟩) ++ bs (Lib.itoa c.til)) ++ ⟨#[32]⟩) ++ c.text) ++ ⟨#[10]⟩) = bs (endLn (lnTo3 p k k2 (k3 + 1)))) := by rw [Hid, nos_cat, hnx.out, bs_append]
              have i1 := itoa_19 (n := c.fr) (by omega) (by omega)
              have i2 := itoa_19 (n := c.til) (by omega) (by omega)
              have g0 : (bs acc).size ≤ 250000 := by rw [bs_size]; exact hle4.out
              have g1 : (bs (Lib.itoa c.fr)).size ≤ 19 := by rw [bs_size]; exact i1
              have g2 : (bs (Lib.itoa c.til)).size ≤ 19 := by rw [bs_size]; exact i2
              have g3 : (⟨#[110, 111, 116, 101, 32]⟩ : ByteArray).size = 5 := rfl
              have g4 : (⟨#[32]⟩ : ByteArray).size = 1 := rfl
              have g5 : (⟨#[10]⟩ : ByteArray).size = 1 := rfl
              have s1 : ¬ 9223372036854775807 < 5 + (bs (Lib.itoa c.fr)).size := by omega
              have s2 : ¬ 9223372036854775807 < 5 + (bs (Lib.itoa c.fr)).size + 1 := by omega
              have s3 : ¬ 9223372036854775807 < 5 + (bs (Lib.itoa c.fr)).size + 1 + (bs (Lib.itoa c.til)).size := by omega
              have s4 : ¬ 9223372036854775807 < 5 + (bs (Lib.itoa c.fr)).size + 1 + (bs (Lib.itoa c.til)).size + 1 := by omega
              have s5 : ¬ 9223372036854775807 < 5 + (bs (Lib.itoa c.fr)).size + 1 + (bs (Lib.itoa c.til)).size + 1 + c.text.size := by omega
              have s6 : ¬ 9223372036854775807 < 5 + (bs (Lib.itoa c.fr)).size + 1 + (bs (Lib.itoa c.til)).size + 1 + c.text.size + 1 := by omega
              have s7 : ¬ 9223372036854775807 < (bs acc).size + (5 + (bs (Lib.itoa c.fr)).size + 1 + (bs (Lib.itoa c.til)).size + 1 + c.text.size + 1) := by omega
              clear d hc hacc hno hbd hnm
              go_wp2_with fail
              refine wp_region_held_drew (S := (fun w' => (∀ kb ko, kb < wx.heap.size → w'.cell? ⟨kb, ko, none⟩ = wx.cell? ⟨kb, ko, none⟩) ∧ wx.heap.size ≤ w'.heap.size ∧ Below wx.heap.size wx w')) (by kernel_rfl) ?_ (fun hHeld => ?_)
              · (try dsimp only); (first | exact SB.mk hkB | exact SB.mk ((Below.refl _ _).drew) | (go_split_ands; refine SB.mk (Below.drew ?_); assumption) | (refine SB.mk ?_; go_grown; done) | (go_split_ands; refine SB.mk ?_; go_grown; done))
              first | (refine take_on (i := 0) (v := ?_) rfl (by kernel_rfl) (by kernel_rfl) (by kernel_rfl) (fun _ _ _ h => h) rfl ?_ (by assumption) ?_; rotate_left; · (intro w' hSw; (try dsimp only at hSw); go_simp; (try with_reducible rfl))) | (refine take_off (i := 0) rfl (by kernel_rfl) (by kernel_rfl) (by kernel_rfl) (fun _ _ _ h => h) rfl (by assumption) ?_)
              (try simp only [Act.put, List.setIfInBounds_toArray, List.set_cons_zero, List.set_cons_succ])
              first | (refine take_on (i := 1) (v := ?_) rfl (by kernel_rfl) (by kernel_rfl) (by kernel_rfl) (fun _ _ _ h => h) rfl ?_ (by assumption) ?_; rotate_left; · (intro w' hSw; (try dsimp only at hSw); go_simp; (try with_reducible rfl))) | (refine take_off (i := 1) rfl (by kernel_rfl) (by kernel_rfl) (by kernel_rfl) (fun _ _ _ h => h) rfl (by assumption) ?_)
              (try simp only [Act.put, List.setIfInBounds_toArray, List.set_cons_zero, List.set_cons_succ])
              first | (refine take_on (i := 2) (v := ?_) rfl (by kernel_rfl) (by kernel_rfl) (by kernel_rfl) (fun _ _ _ h => h) rfl ?_ (by assumption) ?_; rotate_left; · (intro w' hSw; (try dsimp only at hSw); go_simp; (try with_reducible rfl))) | (refine take_off (i := 2) rfl (by kernel_rfl) (by kernel_rfl) (by kernel_rfl) (fun _ _ _ h => h) rfl (by assumption) ?_)
              (try simp only [Act.put, List.setIfInBounds_toArray, List.set_cons_zero, List.set_cons_succ])
              first | (refine take_on (i := 3) (v := ?_) rfl (by kernel_rfl) (by kernel_rfl) (by kernel_rfl) (fun _ _ _ h => h) rfl ?_ (by assumption) ?_; rotate_left; · (intro w' hSw; (try dsimp only at hSw); go_simp; (try with_reducible rfl))) | (refine take_off (i := 3) rfl (by kernel_rfl) (by kernel_rfl) (by kernel_rfl) (fun _ _ _ h => h) rfl (by assumption) ?_)
              (try simp only [Act.put, List.setIfInBounds_toArray, List.set_cons_zero, List.set_cons_succ])
              first | (refine take_on (i := 4) (v := ?_) rfl (by kernel_rfl) (by kernel_rfl) (by kernel_rfl) (fun _ _ _ h => h) rfl ?_ (by assumption) ?_; rotate_left; · (intro w' hSw; (try dsimp only at hSw); go_simp; (try with_reducible rfl))) | (refine take_off (i := 4) rfl (by kernel_rfl) (by kernel_rfl) (by kernel_rfl) (fun _ _ _ h => h) rfl (by assumption) ?_)
              (try simp only [Act.put, List.setIfInBounds_toArray, List.set_cons_zero, List.set_cons_succ])
              first | (refine take_on (i := 8) (v := ?_) rfl (by kernel_rfl) (by kernel_rfl) (by kernel_rfl) (fun _ _ _ h => h) rfl ?_ (by assumption) ?_; rotate_left; · (intro w' hSw; (try dsimp only at hSw); go_simp; (try with_reducible rfl))) | (refine take_off (i := 8) rfl (by kernel_rfl) (by kernel_rfl) (by kernel_rfl) (fun _ _ _ h => h) rfl (by assumption) ?_)
              (try simp only [Act.put, List.setIfInBounds_toArray, List.set_cons_zero, List.set_cons_succ])
              first | (refine take_on (i := 9) (v := ?_) rfl (by kernel_rfl) (by kernel_rfl) (by kernel_rfl) (fun _ _ _ h => h) rfl ?_ (by assumption) ?_; rotate_left; · (intro w' hSw; (try dsimp only at hSw); go_simp; (try with_reducible rfl))) | (refine take_off (i := 9) rfl (by kernel_rfl) (by kernel_rfl) (by kernel_rfl) (fun _ _ _ h => h) rfl (by assumption) ?_)
              (try simp only [Act.put, List.setIfInBounds_toArray, List.set_cons_zero, List.set_cons_succ])
              first | (refine take_on (i := 10) (v := ?_) rfl (by kernel_rfl) (by kernel_rfl) (by kernel_rfl) (fun _ _ _ h => h) rfl ?_ (by assumption) ?_; rotate_left; · (intro w' hSw; (try dsimp only at hSw); go_simp; (try with_reducible rfl))) | (refine take_off (i := 10) rfl (by kernel_rfl) (by kernel_rfl) (by kernel_rfl) (fun _ _ _ h => h) rfl (by assumption) ?_)
              (try simp only [Act.put, List.setIfInBounds_toArray, List.set_cons_zero, List.set_cons_succ])
              first | (refine take_on (i := 11) (v := ?_) rfl (by kernel_rfl) (by kernel_rfl) (by kernel_rfl) (fun _ _ _ h => h) rfl ?_ (by assumption) ?_; rotate_left; · (intro w' hSw; (try dsimp only at hSw); go_simp; (try with_reducible rfl))) | (refine take_off (i := 11) rfl (by kernel_rfl) (by kernel_rfl) (by kernel_rfl) (fun _ _ _ h => h) rfl (by assumption) ?_)
              (try simp only [Act.put, List.setIfInBounds_toArray, List.set_cons_zero, List.set_cons_succ])
              first | (refine take_on (i := 15) (v := ?_) rfl (by kernel_rfl) (by kernel_rfl) (by kernel_rfl) (fun _ _ _ h => h) rfl ?_ (by assumption) ?_; rotate_left; · (intro w' hSw; (try dsimp only at hSw); go_simp; (try with_reducible rfl))) | (refine take_off (i := 15) rfl (by kernel_rfl) (by kernel_rfl) (by kernel_rfl) (fun _ _ _ h => h) rfl (by assumption) ?_)
              (try simp only [Act.put, List.setIfInBounds_toArray, List.set_cons_zero, List.set_cons_succ])
              first | (refine take_on (i := 16) (v := ?_) rfl (by kernel_rfl) (by kernel_rfl) (by kernel_rfl) (fun _ _ _ h => h) rfl ?_ (by assumption) ?_; rotate_left; · (intro w' hSw; (try dsimp only at hSw); go_simp; (try with_reducible rfl))) | (refine take_off (i := 16) rfl (by kernel_rfl) (by kernel_rfl) (by kernel_rfl) (fun _ _ _ h => h) rfl (by assumption) ?_)
              (try simp only [Act.put, List.setIfInBounds_toArray, List.set_cons_zero, List.set_cons_succ])
              first | (refine take_on (i := 17) (v := ?_) rfl (by kernel_rfl) (by kernel_rfl) (by kernel_rfl) (fun _ _ _ h => h) rfl ?_ (by assumption) ?_; rotate_left; · (intro w' hSw; (try dsimp only at hSw); go_simp; (try with_reducible rfl))) | (refine take_off (i := 17) rfl (by kernel_rfl) (by kernel_rfl) (by kernel_rfl) (fun _ _ _ h => h) rfl (by assumption) ?_)
              (try simp only [Act.put, List.setIfInBounds_toArray, List.set_cons_zero, List.set_cons_succ])
              first | (refine take_on (i := 18) (v := ?_) rfl (by kernel_rfl) (by kernel_rfl) (by kernel_rfl) (fun _ _ _ h => h) rfl ?_ (by assumption) ?_; rotate_left; · (intro w' hSw; (try dsimp only at hSw); go_simp; (try with_reducible rfl))) | (refine take_off (i := 18) rfl (by kernel_rfl) (by kernel_rfl) (by kernel_rfl) (fun _ _ _ h => h) rfl (by assumption) ?_)
              (try simp only [Act.put, List.setIfInBounds_toArray, List.set_cons_zero, List.set_cons_succ])
              refine wpAnyH_ready (rs := [5]) (by kernel_rfl) (by simp) ?_
              refine AllReadyH.cons rfl (fun K hK => ?_) AllReadyH.nil
              rw [if_pos (by rfl)]
              go_simp
              first | (go_at_call 34; (with_reducible refine (l01Dec_bs c.fr HN1.out _).mono ?_); rintro e wA ⟨rfl, hb⟩; have hkB : Below wx.heap.size wx wA := Below.next (by go_grown) hb; clear hb) | (go_at_call 34; (with_reducible refine (l01Dec_bs c.til HN2.out _).mono ?_); rintro e wB ⟨rfl, hb⟩; have hkB' : Below wx.heap.size wx wB := Below.next hkB hb; clear hb hkB; have hkB := hkB'; clear hkB')
              refine hK.out _ _ ?_ (fun hHeld2 => ?_)
              · (try dsimp only); (first | exact SB.mk hkB | exact SB.mk ((Below.refl _ _).drew) | (go_split_ands; refine SB.mk (Below.drew ?_); assumption) | (refine SB.mk ?_; go_grown; done) | (go_split_ands; refine SB.mk ?_; go_grown; done))
              clear hK K hHeld; have hHeld := hHeld2; clear hHeld2; (try simp only [Act.put, List.setIfInBounds_toArray, List.set_cons_zero, List.set_cons_succ])
              first | (refine take_on (i := 6) (v := ?_) rfl (by kernel_rfl) (by kernel_rfl) (by kernel_rfl) (fun _ _ _ h => h) rfl ?_ (by assumption) ?_; rotate_left; · (intro w' hSw; (try dsimp only at hSw); go_simp; (try with_reducible rfl))) | (refine take_off (i := 6) rfl (by kernel_rfl) (by kernel_rfl) (by kernel_rfl) (fun _ _ _ h => h) rfl (by assumption) ?_)
              (try simp only [Act.put, List.setIfInBounds_toArray, List.set_cons_zero, List.set_cons_succ])
              first | (refine take_on (i := 7) (v := ?_) rfl (by kernel_rfl) (by kernel_rfl) (by kernel_rfl) (fun _ _ _ h => h) rfl ?_ (by assumption) ?_; rotate_left; · (intro w' hSw; (try dsimp only at hSw); go_simp; (try with_reducible rfl))) | (refine take_off (i := 7) rfl (by kernel_rfl) (by kernel_rfl) (by kernel_rfl) (fun _ _ _ h => h) rfl (by assumption) ?_)
              (try simp only [Act.put, List.setIfInBounds_toArray, List.set_cons_zero, List.set_cons_succ])
              refine wpAnyH_ready (rs := [12]) (by kernel_rfl) (by simp) ?_
              refine AllReadyH.cons rfl (fun K hK => ?_) AllReadyH.nil
              rw [if_pos (by rfl)]
              go_simp
              first | (go_at_call 34; (with_reducible refine (l01Dec_bs c.fr HN1.out _).mono ?_); rintro e wA ⟨rfl, hb⟩; have hkB : Below wx.heap.size wx wA := Below.next (by go_grown) hb; clear hb) | (go_at_call 34; (with_reducible refine (l01Dec_bs c.til HN2.out _).mono ?_); rintro e wB ⟨rfl, hb⟩; have hkB' : Below wx.heap.size wx wB := Below.next hkB hb; clear hb hkB; have hkB := hkB'; clear hkB')
              refine hK.out _ _ ?_ (fun hHeld2 => ?_)
              · (try dsimp only); (first | exact SB.mk hkB | exact SB.mk ((Below.refl _ _).drew) | (go_split_ands; refine SB.mk (Below.drew ?_); assumption) | (refine SB.mk ?_; go_grown; done) | (go_split_ands; refine SB.mk ?_; go_grown; done))
              clear hK K hHeld; have hHeld := hHeld2; clear hHeld2; (try simp only [Act.put, List.setIfInBounds_toArray, List.set_cons_zero, List.set_cons_succ])
              first | (refine take_on (i := 13) (v := ?_) rfl (by kernel_rfl) (by kernel_rfl) (by kernel_rfl) (fun _ _ _ h => h) rfl ?_ (by assumption) ?_; rotate_left; · (intro w' hSw; (try dsimp only at hSw); go_simp; (try with_reducible rfl))) | (refine take_off (i := 13) rfl (by kernel_rfl) (by kernel_rfl) (by kernel_rfl) (fun _ _ _ h => h) rfl (by assumption) ?_)
              (try simp only [Act.put, List.setIfInBounds_toArray, List.set_cons_zero, List.set_cons_succ])
              first | (refine take_on (i := 14) (v := ?_) rfl (by kernel_rfl) (by kernel_rfl) (by kernel_rfl) (fun _ _ _ h => h) rfl ?_ (by assumption) ?_; rotate_left; · (intro w' hSw; (try dsimp only at hSw); go_simp; (try with_reducible rfl))) | (refine take_off (i := 14) rfl (by kernel_rfl) (by kernel_rfl) (by kernel_rfl) (fun _ _ _ h => h) rfl (by assumption) ?_)
              (try simp only [Act.put, List.setIfInBounds_toArray, List.set_cons_zero, List.set_cons_succ])
              first | (refine take_on (i := 19) (v := ?_) rfl (by kernel_rfl) (by kernel_rfl) (by kernel_rfl) (fun _ _ _ h => h) rfl ?_ (by assumption) ?_; rotate_left; · (intro w' hSw; (try dsimp only at hSw); go_simp; (try with_reducible rfl))) | (refine take_off (i := 19) rfl (by kernel_rfl) (by kernel_rfl) (by kernel_rfl) (fun _ _ _ h => h) rfl (by assumption) ?_)
              (try simp only [Act.put, List.setIfInBounds_toArray, List.set_cons_zero, List.set_cons_succ])
              first | (refine take_on (i := 20) (v := ?_) rfl (by kernel_rfl) (by kernel_rfl) (by kernel_rfl) (fun _ _ _ h => h) rfl ?_ (by assumption) ?_; rotate_left; · (intro w' hSw; (try dsimp only at hSw); go_simp; (try with_reducible rfl))) | (refine take_off (i := 20) rfl (by kernel_rfl) (by kernel_rfl) (by kernel_rfl) (fun _ _ _ h => h) rfl (by assumption) ?_)
              (try simp only [Act.put, List.setIfInBounds_toArray, List.set_cons_zero, List.set_cons_succ])
              first | (refine take_on (i := 21) (v := ?_) rfl (by kernel_rfl) (by kernel_rfl) (by kernel_rfl) (fun _ _ _ h => h) rfl ?_ (by assumption) ?_; rotate_left; · (intro w' hSw; (try dsimp only at hSw); go_simp; (try with_reducible rfl))) | (refine take_off (i := 21) rfl (by kernel_rfl) (by kernel_rfl) (by kernel_rfl) (fun _ _ _ h => h) rfl (by assumption) ?_)
              (try simp only [Act.put, List.setIfInBounds_toArray, List.set_cons_zero, List.set_cons_succ])
              first | (refine take_on (i := 22) (v := ?_) rfl (by kernel_rfl) (by kernel_rfl) (by kernel_rfl) (fun _ _ _ h => h) rfl ?_ (by assumption) ?_; rotate_left; · (intro w' hSw; (try dsimp only at hSw); go_simp; (try with_reducible rfl))) | (refine take_off (i := 22) rfl (by kernel_rfl) (by kernel_rfl) (by kernel_rfl) (fun _ _ _ h => h) rfl (by assumption) ?_)
              (try simp only [Act.put, List.setIfInBounds_toArray, List.set_cons_zero, List.set_cons_succ])
              refine wpAnyH_done (by kernel_rfl) ?_ _
              have hhB : Below wx.heap.size wx wB := hHeld.2.2
              clear hHeld hkB
              go_wp2_with fail
              go_roundw
              case rel => exact ⟨k3 + 1, by omega, by go_num, congrArg Value.string hcat.out, Below.next hWwx hhB⟩
              case measure => (simp [intOf]; try omega)
            · obtain rfl : k3 = n3 := by omega
              go_wp2_with fail
              go_ret
              exact ⟨by rw [HALL.out]; rfl, hWwx⟩
end Go.Proofs.YtmdmjnhebbhjbaaDoor
