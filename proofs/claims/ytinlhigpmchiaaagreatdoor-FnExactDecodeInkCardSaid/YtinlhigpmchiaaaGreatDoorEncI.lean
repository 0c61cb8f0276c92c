/-
  The compressed form of an ink: the program's walk.
-/
import Derived.Test.YtinlhigpmchiaaaGreatDoorCols
import Derived.Test.YtinlhigpmchiaaaGreatDoorBuilderK
namespace Go.Proofs.YtinlhigpmchiaaaGreatDoor
set_option linter.unusedSimpArgs false
set_option linter.unusedVariables false
set_option maxRecDepth 20000
open Go.RowKit
open Go.ChangeShapes Go.WideShapes Go.Deep Go.Joins

theorem col_ok {l : List Pt} (h : ∀ p ∈ l, ptB p = true) (i : Nat) : ∀ x ∈ colOf l i, 0 ≤ x ∧ x ≤ 3600000 := by
  intro x hx
  match i with
  | 0 =>
    obtain ⟨p, hp, rfl⟩ := List.mem_map.1 hx
    have := (ptB_true (h p hp)).1
    omega
  | 1 =>
    obtain ⟨p, hp, rfl⟩ := List.mem_map.1 hx
    have := (ptB_true (h p hp)).2.1
    omega
  | n + 2 =>
    obtain ⟨p, hp, rfl⟩ := List.mem_map.1 hx
    exact (ptB_true (h p hp)).2.2
theorem col_small {l : List Pt} (h : ∀ p ∈ l, ptB p = true) (i : Nat) : smallN (colOf l i) := fun x hx => by
  have := col_ok h i x hx
  omega
theorem col_rest {l : List Pt} (h : ∀ p ∈ l, ptB p = true) (i : Nat) : restP (resL (colOf l i)) := fun r hr => by
  have := rest_of (M := 3600000) (by omega) (by omega) (col_ok h i) r hr
  omega
theorem lstTo_le {c : List Int} (hr : restP (resL c)) (hn : c.length ≤ 60) {j : Nat} (hj : j ≤ c.length) : (lstTo c j).length ≤ 3124 := by
  rw [lstTo_len hj]
  have := bitsTo_le hr (parK_le c) j (by rw [resL_len]; exact hj)
  omega
theorem colTo_le {l : List Pt} (h : ∀ p ∈ l, ptB p = true) (hn : l.length ≤ 60) : ∀ i, (colTo l i).length ≤ 3124 * i
  | 0 => Nat.le_refl _
  | i + 1 => by
    have h1 := colTo_le h hn i
    have h2 := lstTo_le (col_rest h i) (by rw [colOf_len]; exact hn) (Nat.le_refl _)
    show (colTo l i ++ lstB (colOf l i)).length ≤ _
    rw [List.length_append]
    unfold lstB
    omega
theorem Bld.of {w : World} {b base : Nat} {l m : List UInt8} (h : Bld w b base l) (e : l = m) : Bld w b base m := e ▸ h
theorem arr_list (l : List UInt8) : (⟨l.toArray⟩ : ByteArray).data.toList = l := by simp
theorem arr_size (l : List UInt8) : (⟨l.toArray⟩ : ByteArray).size = l.length := by simp [ByteArray.size]

theorem acc_col {k : Nat} {P : List (List Pt)} {xs : List Pt} (h : k < P.length) (e : P[k] = xs) : inkTo P (k + 1) = (inkTo P k ++ numBits (xs.length : Int) 8) ++ colTo xs 3 := by
  rw [inkTo_next h, e, List.append_assoc]; rfl
theorem idx3 (A0 A1 A2 : Option Addr) (c0 c1 c2 q : Nat) (w : World) {base : Nat} {xs : List Pt} (h : Cols w base (.slice A0 q c0) (.slice A1 q c1) (.slice A2 q c2) (colOf xs 0) (colOf xs 1) (colOf xs 2)) (hq : xs.length = q) {i : Nat} (hi : i < 3) :
    ∃ Ai ci, q ≤ ci ∧ ci ≤ 9223372036854775807 ∧ Own iC 2 1 w base (.slice Ai q ci) (colOf xs i) ∧ ∀ W : World, (Instr.index 76 (.agg #[.slice A0 q c0, .slice A1 q c1, .slice A2 q c2]) (.int .i64 (i : Int))).run Tryz.prog W = .ok (.slice Ai q ci) W := by
  have key : ∀ (A : Option Addr) (c j : Nat), Own iC 2 1 w base (.slice A q c) (colOf xs j) → q ≤ c ∧ c ≤ 9223372036854775807 := fun A c j h => by
    obtain ⟨A', c', h1, h2, h3, _⟩ := h.rd
    injection h1 with _ _ e3
    rw [colOf_len, hq] at h2
    subst e3
    exact ⟨h2, h3⟩
  match i, hi with
  | 0, _ => exact ⟨A0, c0, (key _ _ _ h.a).1, (key _ _ _ h.a).2, h.a, fun W => by kernel_rfl⟩
  | 1, _ => exact ⟨A1, c1, (key _ _ _ h.b).1, (key _ _ _ h.b).2, h.b, fun W => by kernel_rfl⟩
  | 2, _ => exact ⟨A2, c2, (key _ _ _ h.c).1, (key _ _ _ h.c).2, h.c, fun W => by kernel_rfl⟩
theorem Cols.keep {w w' : World} {base : Nat} {u0 u1 u2 : Value} {X Y T : List Int} (h : Cols w base u0 u1 u2 X Y T) (hk : ∀ k, base ≤ k ∧ k < w.heap.size → w'.heap[k]? = w.heap[k]?) : Cols w' base u0 u1 u2 X Y T :=
  ⟨h.a.of_block fun k hk2 => hk k (h.a.lt k hk2), h.b.of_block fun k hk2 => hk k (h.b.lt k hk2), h.c.of_block fun k hk2 => hk k (h.c.lt k hk2), h.ab, h.ac, h.bc⟩

theorem tail_conv (x : Int) (h : 0 ≤ x ∧ x ≤ 65520) (w : World) :
    (convert 54 9 (.slice (some ⟨w.heap.size, 0, none⟩) 2 2)).run Tryz.prog (w.alloc (.cells #[.int .u8 (x / 256), .int .u8 (x % 256)] 5)) =
      .ok (.string (bs [UInt8.ofNat (x.toNat / 256), UInt8.ofNat (x.toNat % 256)])) (w.alloc (.cells #[.int .u8 (x / 256), .int .u8 (x % 256)] 5)) := by
  have e1 : ((UInt8.ofNat (x.toNat / 256)).toNat : Int) = x / 256 := by rw [UInt8.toNat_ofNat']; omega
  have e2 : ((UInt8.ofNat (x.toNat % 256)).toNat : Int) = x % 256 := by rw [UInt8.toNat_ofNat']; omega
  refine string_of_bk (n := 2) ?_ rfl
  have h1 := Bk.new w #[.int .u8 (x / 256), .int .u8 (x % 256)] 5
  show Bk _ _ _ #[.int .u8 ((UInt8.ofNat (x.toNat / 256)).toNat : Int), .int .u8 ((UInt8.ofNat (x.toNat % 256)).toNat : Int)]
  rw [e1, e2]
  exact h1

set_option maxHeartbeats 16000000 in
theorem iEncode_any (A : Option Addr) (n c : Nat) (S : List St) (P : List (List Pt)) (w : World) (h : InkRd w A n S) (hP : ptsOf S = P) (hv : inkB P = true) :
    Calls Tryz.prog 21 #[.agg #[.slice A n c]] w fun e w' => e = .returned (.string (bs (encB P))) ∧ Below w.heap.size w w' := by
  have H0 := Lib.hid h
  have HLN := Lib.hid h.len
  have HI := Lib.hid hv
  have hlP : P.length = n := by rw [← hP, ptsOf_len]; exact h.len
  have HLP := Lib.hid hlP
  have HPS := Lib.hid hP
  have hn16 : n ≤ 16 := by have h1 := (inkB_all hv).1; omega
  have hbl0 : Hid (Bld ((w.alloc (.cells #[.slice A n c] 24)).alloc (.cells #[.pointer none, .slice none 0 0] 67)) (w.heap.size + 1) (w.heap.size + 2) []) := by
    have h1 := Bld.fresh (w.alloc (.cells #[.slice A n c] 24)) (w.heap.size + 2)
    rw [World.size_alloc] at h1
    exact h1
  have hK0 : Hid (Bk ((w.alloc (.cells #[.slice A n c] 24)).alloc (.cells #[.pointer none, .slice none 0 0] 67)) w.heap.size 24 #[.slice A n c]) := (Bk.new w _ _).alloc _
  have hB0 : Below w.heap.size w ((w.alloc (.cells #[.slice A n c] 24)).alloc (.cells #[.pointer none, .slice none 0 0] 67)) := by go_grown
  have hz0 : Hid (((w.alloc (.cells #[.slice A n c] 24)).alloc (.cells #[.pointer none, .slice none 0 0] 67)).heap.size = w.heap.size + 2) := by simp [Hid]
  clear h hv hP hlP
  go_enter Tryz.func21, Tryz.ntmps21
  go_upto_region 2 with fail
  generalize ((w.alloc (.cells #[.slice A n c] 24)).alloc (.cells #[.pointer none, .slice none 0 0] 67)) = W1 at hbl0 hK0 hB0 hz0 ⊢
  obtain ⟨B, hBe⟩ : ∃ B, w.heap.size + 1 = B := ⟨_, rfl⟩
  have hz1 : B + 1 ≤ W1.heap.size := by have := hz0.out; omega
  rw [show w.heap.size + 2 = B + 1 by omega] at hbl0
  rw [hBe] at hbl0 ⊢
  obtain ⟨q0, f0⟩ := bk1 hK0.out
  have ql := hK0.out.lt
  have hnn : (0 : Int) ≤ (n : Int) := by omega
  go_wp2_with fail
  refine (numberBits_any (n : Int) 8 _ hnn (by omega) (by omega)).mono ?_
  rintro e w2 ⟨rfl, hb2⟩
  have hz2 := hb2.size
  have hbk2 := hbl0.out.keep hb2 (by omega) (Nat.le_refl _)
  have q2 : w2.cell? ⟨w.heap.size, 0, none⟩ = some (.slice A n c) := (hb2.cell (p := ⟨w.heap.size, 0, none⟩) ql).trans q0
  clear q0 f0
  go_wp2_with fail
  refine (writeString_any B (B + 1) _ _ _ hbk2 (by omega) (by omega) (by rw [arr_size, numBits_length]; simp)).mono ?_
  rintro e w3 ⟨rfl, hbk3, hA3⟩
  rw [arr_list] at hbk3
  have HB3 : Hid (Bld w3 B (B + 1) (inkTo P 0)) := hbk3.of (by unfold inkTo; rw [HLP.out]; simp)
  have hA13 : Apart B (B + 1) W1 w3 := (Apart.of_below (hb2.mono (by omega))).trans hA3
  have q3 : w3.cell? ⟨w.heap.size, 0, none⟩ = some (.slice A n c) := (hA3.cell (by omega) (by omega)).trans q2
  clear hbk3 hbk2 q2 hb2 hA3
  go_wp2_with fail
  clear q3
  go_loopw [25] (fun i wr => ∃ k : Nat, k ≤ n ∧ i = .int .i64 (k : Int) ∧ Hid (Bld wr B (B + 1) (inkTo P k)) ∧ Apart B (B + 1) W1 wr) (fun i _ => n - (intOf i).toNat)
  case atStart => exact ⟨0, Nat.zero_le _, rfl, HB3.out, hA13⟩
  case round =>
    obtain ⟨wo, rfl⟩ : ∃ wo, wo = wr := ⟨wr, rfl⟩
    obtain ⟨k, hk, rfl, hbk, hA⟩ := hrel
    clear HB3 hA13 hz2
    have hAs := hA.size
    have hB : Below w.heap.size w wo := hB0.trans (hA.below (by omega) (by omega))
    by_cases hlt : k < n
    · have ka : k < S.length := by have := HLN.out; omega
      have ka2 : k < P.length := by rw [HLP.out]; exact hlt
      obtain ⟨b1, o1, rfl, l1, c1w, p1⟩ := (H0.out).at ka
      have c1 : wo.cell? ⟨b1, o1 + k, none⟩ = _ := (hB.cell (p := ⟨b1, o1 + k, none⟩) l1).trans c1w
      have l1o : b1 < wo.heap.size := Nat.lt_of_lt_of_le l1 hB.size
      clear c1w
      have hstr := (inkB_all HI.out).2 _ (List.getElem_mem ka2)
      have hek : P[k] = S[k].l := by
        have ka3 : k < (ptsOf S).length := by rw [ptsOf_len]; exact ka
        rw [← ptsOf_get S k ka3 ka]
        simp only [HPS.out]
      rw [hek] at hstr
      obtain ⟨h60, hpts⟩ := strB_pt hstr
      have hnx := Lib.hid (acc_col ka2 hek)
      have hle : Hid ((inkTo P k).length ≤ 80968) := inkTo_le HI.out k
      obtain ⟨As, cs, xs, hr⟩ : ∃ As cs xs, S[k] = ⟨As, cs, xs⟩ := ⟨S[k].A, S[k].c, S[k].l, rfl⟩
      rw [hr] at c1 p1 hpts h60 hnx
      simp only [] at c1 p1 hpts h60 hnx
      obtain ⟨q, hq⟩ : ∃ q, xs.length = q := ⟨_, rfl⟩
      rw [hq] at c1 p1 h60 hnx
      have LQ := Lib.hid hq
      have HP := Lib.hid p1
      have HPT := Lib.hid hpts
      have hk0 : (0 : Int) ≤ (k : Int) := by omega
      have hkn : (k : Int) < (n : Int) := by omega
      have hqq : (0 : Int) ≤ (q : Int) := by omega
      clear hr p1 hpts hq hstr ka2 hek
      go_upto_region 6 with fail
      have hS2 : Hid (Bk (wo.alloc (.cells #[.slice As q cs] 38)) wo.heap.size 38 #[.slice As q cs]) := Bk.new wo _ _
      have hbk2 := Lib.hid ((hbk.out.blk.more ((Below.refl _ _).alloc (Nat.le_refl _) (.cells #[.slice As q cs] 38)) (by omega)).weak (K' := fun k => k = wo.heap.size) (fun k hk => .inr (by subst hk; simp)))
      have hB2 : Below wo.heap.size wo (wo.alloc (.cells #[.slice As q cs] 38)) := (Below.refl _ _).alloc (Nat.le_refl _) _
      have hz2 : wo.heap.size < (wo.alloc (.cells #[.slice As q cs] 38)).heap.size := by simp
      obtain ⟨s, hs⟩ : ∃ s, wo.heap.size = s := ⟨_, rfl⟩
      rw [hs] at hS2 hbk2 hz2 ⊢
      generalize (wo.alloc (.cells #[.slice As q cs] 38)) = W2 at hS2 hbk2 hB2 hz2 ⊢
      have q1 : W2.cell? ⟨s, 0, none⟩ = some (.slice As q cs) := hS2.out.cell 0
      clear c1
      go_wp2_with fail
      refine (numberBits_any (q : Int) 8 _ hqq (by omega) (by omega)).mono ?_
      rintro e w3 ⟨rfl, hb3⟩
      have hz3 := hb3.size
      have hbk3 := hbk2.out.keep hb3 (by omega)
      have hS3 := hS2.out.below hb3 hz2
      clear q1
      go_wp2_with fail
      refine (writeK_any (fun k => k = s) B (B + 1) _ _ _ hbk3 (by omega) (by omega) (by rw [arr_size, numBits_length]; have := hle.out; omega)).mono ?_
      rintro e w4 ⟨rfl, hbk4, hA4⟩
      rw [arr_list] at hbk4
      have hz4 := hA4.ap.size
      have HB4 := Lib.hid hbk4
      have hS4 : Bk w4 s 38 #[.slice As q cs] := (hA4.keep s rfl).trans hS3
      have q1 : w4.cell? ⟨s, 0, none⟩ = some (.slice As q cs) := hS4.cell 0
      have hA14 : Apart B (B + 1) wo w4 := ((Apart.of_below (hB2.mono (by omega))).trans (Apart.of_below (hb3.mono (by omega)))).trans hA4.ap
      have hBw4 : Below w.heap.size w w4 := hB.trans (hA14.below (by omega) (by omega))
      have hRD : Hid (Rd w4 As q 3 (rowOf ptC xs)) := HP.out.below hBw4
      clear hbk4 hbk3 hS3 hS4 hA4 hb3 hbk2 hS2
      go_wp2_with fail
      refine (columns_any As q cs xs _ hRD.out LQ.out h60).mono ?_
      rintro e w5 ⟨⟨A0, c0, A1, c1, A2, c2, rfl, hcols⟩, hb5⟩
      have hz5 := hb5.size
      obtain ⟨K5, hK5⟩ : ∃ K5 : Nat → Prop, K5 = fun k => w4.heap.size ≤ k ∧ k < w5.heap.size := ⟨_, rfl⟩
      have HB5 : Hid (BlK K5 w5 B (B + 1) (inkTo P k ++ numBits (q : Int) 8)) := (HB4.out.more hb5 (by omega)).weak (fun k hk => .inr (by rw [hK5] at hk; exact hk))
      have HK5 := Lib.hid hK5
      have HC5 := Lib.hid hcols
      have hA15 : Apart B (B + 1) wo w5 := hA14.trans (Apart.of_below (hb5.mono (by omega)))
      obtain ⟨acc, hacc⟩ : ∃ acc, inkTo P k ++ numBits (q : Int) 8 = acc := ⟨_, rfl⟩
      rw [hacc] at HB5 hnx
      have hal : acc.length ≤ 80976 := by rw [← hacc, List.length_append, numBits_length]; have := hle.out; omega
      clear hcols hK5 HB4 hA14 hacc hbk q1 hb5 hRD hBw4
      go_wp2_with fail
      have HA15 := Lib.hid hA15
      have HAo := Lib.hid hA
      clear hA15 hA
      go_loopw [36] (fun v wr => ∃ i : Nat, i ≤ 3 ∧ v = .int .i64 (i : Int) ∧ Hid (BlK K5 wr B (B + 1) (acc ++ colTo xs i)) ∧ Hid (ApK K5 B (B + 1) w5 wr)) (fun v _ => 3 - (intOf v).toNat)
      case atStart => exact ⟨0, Nat.zero_le _, rfl, by rw [Hid]; exact (by simpa [colTo] using HB5.out), ApK.refl _ _ _ _⟩
      case round =>
        obtain ⟨wi, rfl⟩ : ∃ wi, wi = wr := ⟨wr, rfl⟩
        obtain ⟨i, hi, rfl, hbi, hAi⟩ := hrel
        have hAis := hAi.out.ap.size
        by_cases hi3 : i < 3
        · have hCi : Cols wi w4.heap.size (.slice A0 q c0) (.slice A1 q c1) (.slice A2 q c2) (colOf xs 0) (colOf xs 1) (colOf xs 2) := HC5.out.keep fun k hk => hAi.out.keep k (by rw [HK5.out]; exact hk)
          obtain ⟨Ai, ci, hci, hcm, hown, hidx⟩ := idx3 A0 A1 A2 c0 c1 c2 q wi hCi LQ.out hi3
          have hcl : Hid ((colOf xs i).length = q) := (colOf_len xs i).trans LQ.out
          have hcs := Lib.hid (col_small HPT.out i)
          have hcr := Lib.hid (col_rest HPT.out i)
          have RI := Lib.hid (hown.rdS hcl.out)
          have hct := colTo_le HPT.out (by rw [LQ.out]; exact h60) i
          have hi0 : (0 : Int) ≤ (i : Int) := by omega
          have hi3i : (i : Int) < 3 := by omega
          have hcn : Hid (colTo xs (i + 1) = colTo xs i ++ lstB (colOf xs i)) := rfl
          obtain ⟨C, hC⟩ : ∃ C, colOf xs i = C := ⟨_, rfl⟩
          rw [hC] at hcl hcs hcr RI hcn
          clear hCi hown hC
          go_wp2_with fail
          refine (residualsOf_any Ai q ci C _ RI.out hcl.out hcs.out h60 hci hcm).mono ?_
          rintro e w6 ⟨⟨v, rfl, hown6⟩, hb6⟩
          obtain ⟨A6, c6, hv, _, _, _⟩ := hown6.rd
          rw [residTo_len] at hv
          subst hv
          have hz6 := hb6.size
          obtain ⟨R, hR⟩ : ∃ R, resL C = R := ⟨_, rfl⟩
          have hRe : residTo C q = R := by rw [← hR]; unfold resL; rw [hcl.out]
          have hRl : Hid (R.length = q) := by rw [Hid, ← hRe, residTo_len]
          rw [hRe] at hown6
          rw [hR] at hcr
          obtain ⟨kk, hkk⟩ : ∃ kk, (bestTo R 12).1 = kk := ⟨_, rfl⟩
          have hpk : parK C = kk := by unfold parK; rw [hR]; exact hkk
          have hk12 : kk ≤ 12 := by rw [← hpk]; exact parK_le C
          have hkk0 : (0 : Int) ≤ (kk : Int) := by omega
          obtain ⟨K6, hK6⟩ : ∃ K6 : Nat → Prop, K6 = fun k => K5 k ∨ (wi.heap.size ≤ k ∧ k < w6.heap.size) := ⟨_, rfl⟩
          have hlk : ∀ k, K5 k → k < wi.heap.size := fun k hk => hbi.out.lt hk
          have hBz : B + 1 ≤ wi.heap.size := by omega
          have HB6 : Hid (BlK K6 w6 B (B + 1) (acc ++ colTo xs i)) := by rw [hK6]; exact hbi.out.more hb6 (by omega)
          have R6 := Lib.hid (hown6.rdS hRl.out)
          go_wp2_with fail
          refine (bestRice_any A6 q c6 R _ R6.out hRl.out hcr.out h60).mono ?_
          rintro e w' ⟨rfl, rfl⟩
          rw [hkk]
          go_wp2_with fail
          refine (numberBits_any (kk : Int) 4 _ hkk0 (by omega) (by omega)).mono ?_
          rintro e w7 ⟨rfl, hb7⟩
          have hz7 := hb7.size
          go_wp2_with fail
          refine (writeK_any K6 B (B + 1) _ _ _ (HB6.out.keep hb7 (by omega)) (by omega) (by omega) (by rw [arr_size, numBits_length, List.length_append]; omega)).mono ?_
          rintro e w8 ⟨rfl, hbk8, hA8⟩
          rw [arr_list] at hbk8
          have hz8 := hA8.ap.size
          have HB8 : Hid (BlK K6 w8 B (B + 1) ((acc ++ colTo xs i) ++ lstTo C 0)) := by rw [lstTo_zero, hpk]; exact hbk8
          have HO8 : Hid (Own iC 2 1 w8 wi.heap.size (.slice A6 q c6) R) := (hown6.next hb7).of_block fun k hk => hA8.keep k (by rw [hK6]; exact .inr (hown6.lt k hk))
          have HA8 : Hid (ApK K5 B (B + 1) wi w8) := ((ApK.of_below hb6 hBz hlk).trans (ApK.of_below hb7 (by omega) (fun k hk => by have := hlk k hk; omega))).trans (hA8.weak (fun k hk => by rw [hK6]; exact .inl hk))
          have HK6 := Lib.hid hK6
          have hlo6 : Hid (∀ k, (Value.slice A6 q c6).ownBlock = some k → wi.heap.size ≤ k ∧ k < w6.heap.size) := hown6.lt
          have hnext : Hid (∀ (j : Nat) (h : j < R.length), lstTo C (j + 1) = lstTo C j ++ riceL R[j] kk) := fun j h => by
            subst hR
            rw [← hpk]
            exact lstTo_next h
          have hlls : Hid (∀ j, j ≤ q → (lstTo C j).length ≤ 3124) := fun j h => lstTo_le (by rw [hR]; exact hcr.out) (by rw [hcl.out]; exact h60) (by rw [hcl.out]; exact h)
          clear hbk8 hA8 hown6 hK6 HB6 hb6 hb7 hkk hR hRe hidx hlk
          go_wp2_with fail
          go_loopw [51] (fun v wr => ∃ j : Nat, j ≤ q ∧ v = .int .i64 (j : Int) ∧ Hid (BlK K6 wr B (B + 1) ((acc ++ colTo xs i) ++ lstTo C j)) ∧ Hid (ApK K6 B (B + 1) w8 wr)) (fun v _ => q - (intOf v).toNat)
          case atStart => exact ⟨0, Nat.zero_le _, rfl, HB8.out, ApK.refl _ _ _ _⟩
          case round =>
            obtain ⟨j, hj, rfl, hbj, hAj⟩ := hrel
            have hAjs := hAj.out.ap.size
            by_cases hjq : j < q
            · have jl : j < R.length := by rw [hRl.out]; exact hjq
              have hOj := HO8.out.of_block fun k hk => hAj.out.keep k (by rw [HK6.out]; exact .inr (hlo6.out k hk))
              obtain ⟨b4, o4, rfl, l4, hc4⟩ := (hOj.rdS hRl.out).at iC_len hRl.out jl
              have c4 : wr.cell? ⟨b4, o4 + j, none⟩ = some (.int .i64 R[j]) := by simpa using hc4 0 _ rfl
              have hrj := hcr.out.at jl
              have hnj := Lib.hid (hnext.out j jl)
              have hll := hlls.out j hj
              have hrl : (riceL R[j] kk).length ≤ 52 := riceN_le hrj hk12
              have hj0 : (0 : Int) ≤ (j : Int) := by omega
              have hjn : (j : Int) < (q : Int) := by omega
              have HRJ := Lib.hid hrj
              clear hOj hc4 hrj
              go_wp2_with fail
              refine (riceBits_any R[j] kk _ HRJ.out hk12).mono ?_
              rintro e w9 ⟨rfl, hb9⟩
              have hz9 := hb9.size
              go_wp2_with fail
              refine (writeK_any K6 B (B + 1) _ _ _ (hbj.out.keep hb9 (by omega)) (by omega) (by omega) (by rw [arr_size, List.length_append, List.length_append]; omega)).mono ?_
              rintro e w10 ⟨rfl, hbk10, hA10⟩
              rw [arr_list] at hbk10
              have HB10 : Hid (BlK K6 w10 B (B + 1) ((acc ++ colTo xs i) ++ lstTo C (j + 1))) := by rw [Hid, hnj.out, ← List.append_assoc]; exact hbk10
              have HA10 : Hid (ApK K6 B (B + 1) w8 w10) := (hAj.out.trans (ApK.of_below hb9 (by omega) (fun k hk => hbj.out.lt hk))).trans hA10
              clear hbk10 hA10 hb9
              go_wp2_with fail
              go_roundw
              case rel => exact ⟨j + 1, by omega, by go_num, HB10, HA10⟩
              case measure => (simp [intOf]; try omega)
            · obtain rfl : j = q := by omega
              have HBE : Hid (BlK K5 wr B (B + 1) (acc ++ colTo xs (i + 1))) := by
                rw [Hid, hcn.out]
                unfold lstB
                rw [hcl.out, ← List.append_assoc]
                exact hbj.out.weak fun k hk => by rw [HK6.out]; exact .inl hk
              have HAE : Hid (ApK K5 B (B + 1) w5 wr) := (hAi.out.trans HA8.out).trans (hAj.out.weak fun k hk => by rw [HK6.out]; exact .inl hk)
              go_wp2_with fail
              go_roundw
              case rel => exact ⟨i + 1, by omega, by go_num, HBE, HAE⟩
              case measure => (simp [intOf]; try omega)
        · obtain rfl : i = 3 := by omega
          have HBN : Hid (BlK K5 wi B (B + 1) (inkTo P (k + 1))) := by rw [Hid, hnx.out]; exact hbi.out
          go_wp2_with fail
          go_roundw
          case rel => exact ⟨k + 1, by omega, by go_num, HBN.out.bld, (HAo.out.trans HA15.out).trans hAi.out.ap⟩
          case measure => (simp [intOf]; try omega)
    · obtain rfl : k = n := by omega
      have hall : inkTo P k = inkBits P := by unfold inkBits; rw [HLP.out]
      have hle := inkTo_le HI.out k
      have hbk2 := hbk.out
      rw [hall] at hbk2 hle
      have HBK := Lib.hid hbk2
      clear hbk2 hall hbk
      go_wp2_with fail
      refine (Tryz.Builder_String_any B B _ _ (HBK.out.is (Nat.le_refl _) (by omega)) (by omega)).mono ?_
      rintro e w3 ⟨rfl, hb3⟩
      have hB3 : Below w.heap.size w w3 := hB.trans (hb3.mono (by omega))
      clear hb3
      go_wp2_with fail
      refine (iPackBits_any (bs (inkBits P)) (by rw [bs_size]; omega) (inkBits_ok HI.out) _).mono ?_
      rintro e w4 ⟨rfl, hb4⟩
      have hB4 := Below.next hB3 hb4
      clear hb4
      have hpl := packTo_len (bs (inkBits P)) (bs (inkBits P)).size
      obtain ⟨pk, hpk⟩ : ∃ pk, packTo (bs (inkBits P)) (bs (inkBits P)).size = pk := ⟨_, rfl⟩
      rw [hpk] at hpl ⊢
      rw [bs_size] at hpl
      have hps : (⟨pk.toArray⟩ : ByteArray).size ≤ 20000 := by rw [arr_size]; omega
      have hik : (⟨#[73, 75]⟩ : ByteArray).size = 2 := rfl
      have hhead : (⟨#[73, 75]⟩ : ByteArray) ++ ⟨pk.toArray⟩ = bs (encS P) := by
        unfold encS
        rw [bs_size] at hpk
        rw [hpk, show (⟨#[73, 75]⟩ : ByteArray) = bs [73, 75] from rfl, show (⟨pk.toArray⟩ : ByteArray) = bs pk from rfl, bs_append]
      have hes : (bs (encS P)).size ≤ 20002 := by rw [← hhead, ByteArray.size_append, hik]; omega
      have HHD := Lib.hid hhead
      clear hhead hpk
      go_wp2_with fail
      rw [HHD.out]
      refine (iChecksumOf (bs (encS P)) _ (by omega)).mono ?_
      rintro e w5 ⟨rfl, hb5⟩
      have hB5 := Below.next hB4 hb5
      rw [bs_list]
      have hcb := csum_bd (encS P)
      obtain ⟨x, hx⟩ : ∃ x, csum (encS P) = x := ⟨_, rfl⟩
      rw [hx] at hcb ⊢
      have hcv := tail_conv x hcb w5
      have hts : (bs [UInt8.ofNat (x.toNat / 256), UInt8.ofNat (x.toNat % 256)]).size = 2 := rfl
      have hfin : Hid (bs (encS P) ++ bs [UInt8.ofNat (x.toNat / 256), UInt8.ofNat (x.toNat % 256)] = bs (encB P)) := by
        unfold encB
        rw [Hid, bs_append, hx]
      clear hb5 hx
      go_wp2_with fail
      go_ret
      exact ⟨by rw [hfin.out]; rfl, Below.alloc hB5 hB5.size _⟩
end Go.Proofs.YtinlhigpmchiaaaGreatDoor
