/-
  The compressed form of an ink: both sides.
-/
import Derived.Test.YtinlhigpmchiaaaGreatDoorEncS
namespace Go.Proofs.YtinlhigpmchiaaaGreatDoor
set_option linter.unusedSimpArgs false
set_option linter.unusedVariables false
set_option maxRecDepth 20000
open Go.RowKit
open Go.ChangeShapes Go.WideShapes Go.Deep Go.Joins

theorem bs_num (n : Int) (k : Nat) : (⟨(numBits n k).toArray⟩ : ByteArray) = bs (numBits n k) := rfl
set_option maxHeartbeats 8000000 in
theorem l04Encode_any (b : Nat) (A : Option Addr) (n c : Nat) (S : List St) (P : List (List Pt)) (w : World) (hcell : w.cell? ⟨b, 0, none⟩ = some (.slice A n c)) (h : InkRd w A n S) (hP : ptsOf S = P) (hv : inkB P = true) :
    Calls Tryz.prog 14 #[.pointer (some ⟨b, 0, none⟩)] w fun e w' => e = .returned (.string (bs (encB P))) ∧ Below w.heap.size w w' := by
  have hbl : b < w.heap.size := block_lt_of_cell hcell
  have H0 := Lib.hid h
  have HLN := Lib.hid h.len
  have HI := Lib.hid hv
  have HC := Lib.hid hcell
  have hlP : P.length = n := by rw [← hP, ptsOf_len]; exact h.len
  have HLP := Lib.hid hlP
  have HPS := Lib.hid hP
  have hn16 : n ≤ 16 := by have h1 := (inkB_all hv).1; omega
  have hnn : (0 : Int) ≤ (n : Int) := by omega
  clear h hv hP hlP
  go_enter Tryz.func14, Tryz.ntmps14
  go_wp2_with fail
  refine (l04Number_any (n : Int) 8 _ hnn (by omega) (by omega)).mono ?_
  rintro e w2 ⟨rfl, hb2⟩
  have hB2 : Below w.heap.size w w2 := hb2
  have hz : Hid ((⟨(numBits (n : Int) 8).toArray⟩ : ByteArray) = bs (inkTo P 0)) := by
    unfold inkTo
    rw [Hid, HLP.out, List.take_zero, bs_num]; simp
  clear hb2 hcell
  go_wp2_with fail
  go_loopw [3, 4] (fun v i wr => ∃ k : Nat, k ≤ n ∧ i = .int .i64 (k : Int) ∧ v = .string (bs (inkTo P k)) ∧ Below w.heap.size w wr) (fun _ i _ => n - (intOf i).toNat)
  case atStart => exact ⟨0, Nat.zero_le _, rfl, by rw [← hz.out], hB2⟩
  case round =>
    obtain ⟨wo, rfl⟩ : ∃ wo, wo = wr := ⟨wr, rfl⟩
    obtain ⟨k, hk, rfl, rfl, hB⟩ := hrel
    have hBs := hB.size
    have q0 : wo.cell? ⟨b, 0, none⟩ = some (.slice A n c) := (hB.cell (p := ⟨b, 0, none⟩) hbl).trans HC.out
    have hbo : b < wo.heap.size := by omega
    by_cases hlt : k < n
    · have ka : k < S.length := by have := HLN.out; omega
      have ka2 : k < P.length := by rw [HLP.out]; exact hlt
      obtain ⟨b1, o1, e1, l1, c1w, p1⟩ := (H0.out).at ka
      have hstr := (inkB_all HI.out).2 _ (List.getElem_mem ka2)
      have hek : P[k] = S[k].l := by
        have ka3 : k < (ptsOf S).length := by rw [ptsOf_len]; exact ka
        rw [← ptsOf_get S k ka3 ka]
        simp only [HPS.out]
      rw [hek] at hstr
      obtain ⟨h60, hpts⟩ := strB_pt hstr
      have hnx := Lib.hid (acc_col ka2 hek)
      have hle : Hid ((inkTo P k).length ≤ 80968) := inkTo_le HI.out k
      obtain ⟨As, cs, xs, hr⟩ : ∃ As cs xs, S[k] = ⟨As, cs, xs⟩ := ⟨S[k].A, S[k].c, S[k].l, rfl⟩
      rw [hr] at c1w p1 hpts h60 hnx
      simp only [] at c1w p1 hpts h60 hnx
      obtain ⟨q, hq⟩ : ∃ q, xs.length = q := ⟨_, rfl⟩
      rw [hq] at c1w p1 h60 hnx
      have LQ := Lib.hid hq
      have HP := Lib.hid p1
      have HPT := Lib.hid hpts
      have C1 := Lib.hid c1w
      have c1 : wo.cell? ⟨b1, o1 + k, none⟩ = some (.slice As q cs) := (hB.cell (p := ⟨b1, o1 + k, none⟩) l1).trans c1w
      have l1o : b1 < wo.heap.size := by omega
      have hk0 : (0 : Int) ≤ (k : Int) := by omega
      have hkn : (k : Int) < (n : Int) := by omega
      have hqq : (0 : Int) ≤ (q : Int) := by omega
      have g1 : (bs (inkTo P k)).size ≤ 80968 := by rw [bs_size]; exact hle.out
      have g2 : (⟨(numBits (q : Int) 8).toArray⟩ : ByteArray).size = 8 := by rw [arr_size, numBits_length]
      rw [e1] at q0
      clear hr p1 hpts hq hstr ka2 hek c1w e1
      go_wp2_with fail
      refine (l04Number_any (q : Int) 8 _ hqq (by omega) (by omega)).mono ?_
      rintro e w3 ⟨rfl, hb3⟩
      have hB3 := Below.next hB hb3
      obtain ⟨acc, hacc⟩ : ∃ acc, inkTo P k ++ numBits (q : Int) 8 = acc := ⟨_, rfl⟩
      have hac : Hid (bs (inkTo P k) ++ ⟨(numBits (q : Int) 8).toArray⟩ = bs acc) := by rw [Hid, bs_num, bs_append, hacc]
      have hal : acc.length ≤ 80976 := by rw [← hacc, List.length_append, numBits_length]; have := hle.out; omega
      rw [hacc] at hnx
      clear hb3 hacc q0 c1
      go_wp2_with fail
      clear g1 g2
      go_loopw [3, 6] (fun v j wr => ∃ i : Nat, i ≤ 3 ∧ j = .int .i64 (i : Int) ∧ v = .string (bs (acc ++ colTo xs i)) ∧ Below w.heap.size w wr) (fun _ j _ => 3 - (intOf j).toNat)
      case atStart => exact ⟨0, Nat.zero_le _, rfl, by rw [hac.out]; simp [colTo], hB3⟩
      case round =>
        obtain ⟨i, hi, rfl, rfl, hBi⟩ := hrel
        by_cases hi3 : i < 3
        · have c1 : wr.cell? ⟨b1, o1 + k, none⟩ = some (.slice As q cs) := (hBi.cell (p := ⟨b1, o1 + k, none⟩) l1).trans C1.out
          have hRD : Hid (Rd wr As q 3 (rowOf ptC xs)) := HP.out.below hBi
          have hcl : Hid ((colOf xs i).length = q) := (colOf_len xs i).trans LQ.out
          have hcs := Lib.hid (col_small HPT.out i)
          have hcr := Lib.hid (col_rest HPT.out i)
          have hct := colTo_le HPT.out (by rw [LQ.out]; exact h60) i
          have hll : (lstB (colOf xs i)).length ≤ 3124 := lstTo_le hcr.out (by rw [hcl.out]; exact h60) (Nat.le_refl _)
          have hfin : Hid (bs (acc ++ colTo xs i) ++ bs (lstB (colOf xs i)) = bs (acc ++ colTo xs (i + 1))) := by
            rw [Hid, bs_append, show colTo xs (i + 1) = colTo xs i ++ lstB (colOf xs i) from rfl, List.append_assoc]
          have hi0 : (0 : Int) ≤ (i : Int) := by omega
          have hi3i : (i : Int) < 3 := by omega
          have g1 : (bs (acc ++ colTo xs i)).size ≤ 100000 := by rw [bs_size, List.length_append]; omega
          have g2 : (bs (lstB (colOf xs i))).size ≤ 3124 := by rw [bs_size]; exact hll
          obtain ⟨C, hC⟩ : ∃ C, colOf xs i = C := ⟨_, rfl⟩
          have HCe := Lib.hid hC
          rw [hC] at hcl hcs hcr hfin g2
          clear hC hll
          go_wp2_with fail
          refine (l04Column_any b1 (o1 + k) As q cs xs i _ hi3 c1 hRD.out LQ.out h60).mono ?_
          rintro e w4 ⟨⟨v, rfl, hown⟩, hb4⟩
          rw [HCe.out] at hown
          obtain ⟨A6, c6, hv, _, _, _⟩ := hown.rd
          rw [hcl.out] at hv
          subst hv
          have R4 := Lib.hid (hown.rdS hcl.out)
          have hB4 := Below.next hBi hb4
          clear hown hb4 c1
          go_wp2_with fail
          refine (l04List_any A6 q c6 C _ R4.out hcl.out hcs.out hcr.out h60).mono ?_
          rintro e w5 ⟨rfl, hb5⟩
          have hB5 := Below.next hB4 hb5
          clear hb5
          go_wp2_with fail
          go_roundw
          case rel => exact ⟨i + 1, by omega, by go_num, by rw [hfin.out], hB5⟩
          case measure => (simp [intOf]; try omega)
        · obtain rfl : i = 3 := by omega
          have hBN : Hid (bs (acc ++ colTo xs 3) = bs (inkTo P (k + 1))) := by rw [Hid, hnx.out]
          go_wp2_with fail
          go_roundw
          case rel => exact ⟨k + 1, by omega, by go_num, by rw [hBN.out], hBi⟩
          case measure => (simp [intOf]; try omega)
    · obtain rfl : k = n := by omega
      have hall : inkTo P k = inkBits P := by unfold inkBits; rw [HLP.out]
      have hle := inkTo_le HI.out k
      rw [hall] at hle ⊢
      clear hall
      go_wp2_with fail
      refine (l04Pack_any (bs (inkBits P)) (by rw [bs_size]; omega) _).mono ?_
      rintro e w4 ⟨rfl, hb4⟩
      have hB4 := Below.next hB hb4
      clear hb4
      have hpl := packTo_len (bs (inkBits P)) (bs (inkBits P)).size
      obtain ⟨pk, hpk⟩ : ∃ pk, packTo (bs (inkBits P)) (bs (inkBits P)).size = pk := ⟨_, rfl⟩
      rw [hpk] at hpl ⊢
      rw [bs_size] at hpl
      have hps : (⟨pk.toArray⟩ : ByteArray).size ≤ 20000 := by rw [arr_size]; omega
      have hik : (⟨#[73, 75]⟩ : ByteArray).size = 2 := rfl
      have hhead : (⟨#[73, 75]⟩ : ByteArray) ++ ⟨pk.toArray⟩ = bs (encS P) := by
        unfold encS
        rw [bs_size] at hpk
        rw [hpk, show (⟨#[73, 75]⟩ : ByteArray) = bs [73, 75] from rfl, show (⟨pk.toArray⟩ : ByteArray) = bs pk from rfl, bs_append]
      have hes : (bs (encS P)).size ≤ 20002 := by rw [← hhead, ByteArray.size_append, hik]; omega
      have HHD := Lib.hid hhead
      clear hhead hpk
      go_wp2_with fail
      rw [HHD.out]
      refine (l04Sum_any (bs (encS P)) _ (by omega)).mono ?_
      rintro e w5 ⟨rfl, rfl⟩
      rw [bs_list]
      have hcb := csum_bd (encS P)
      obtain ⟨x, hx⟩ : ∃ x, csum (encS P) = x := ⟨_, rfl⟩
      rw [hx] at hcb ⊢
      have hcv := tail_conv x hcb w4
      have hts : (bs [UInt8.ofNat (x.toNat / 256), UInt8.ofNat (x.toNat % 256)]).size = 2 := rfl
      have hfin : Hid (bs (encS P) ++ bs [UInt8.ofNat (x.toNat / 256), UInt8.ofNat (x.toNat % 256)] = bs (encB P)) := by
        unfold encB
        rw [Hid, bs_append, hx]
      clear hx
      go_wp2_with fail
      go_ret
      exact ⟨by rw [hfin.out]; rfl, Below.alloc hB4 hB4.size _⟩

def encR (P : List (List Pt)) : List UInt8 × Int := if inkB P = true then (encB P, 0) else ([], 1)
end Go.Proofs.YtinlhigpmchiaaaGreatDoor
