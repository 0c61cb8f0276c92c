/-
  The sum of all turns of a stroke: program and reference compute the same.
-/
import Derived.Test.YtcglcfjonicjgaaDirs
namespace Go.Proofs.Ytcglcfjonicjgaa
set_option linter.unusedSimpArgs false
set_option linter.unusedVariables false
open Go.RowKit
open Go.ChangeShapes Go.WideShapes Go.Deep Go.Joins

def bendT (a b : Int) : Int := (b - a + 8 + 3) % 8 - 3
def bendTo (l : List Int) : Nat → Int
  | 0 => 0
  | k + 1 => bendTo l k + bendT (l.getD k 0) (l.getD (k + 1) 0)
theorem getD_int {l : List Int} {k : Nat} (h : k < l.length) : l.getD k 0 = l[k] := by simp [List.getD, h]
theorem bendT_bd (a b : Int) : -3 ≤ bendT a b ∧ bendT a b ≤ 4 := by unfold bendT; omega
theorem bendTo_bd (l : List Int) (k : Nat) : -3 * (k : Int) ≤ bendTo l k ∧ bendTo l k ≤ 4 * (k : Int) := by
  induction k with
  | zero => simp [bendTo]
  | succ k ih => have := bendT_bd (l.getD k 0) (l.getD (k + 1) 0); unfold bendTo; omega
theorem bendTo_next {l : List Int} {k : Nat} (h : k + 1 < l.length) : bendTo l (k + 1) = bendTo l k + bendT l[k] l[k + 1] := by rw [bendTo, getD_int h, getD_int (by omega : k < l.length)]
def bendROk (l : List Pt) : Int × Int := (bendTo (dirsTo l (l.length - 1)) ((dirsTo l (l.length - 1)).length - 1), 0)
def bendR (l : List Pt) : Int × Int := if strB l = true then bendROk l else (0, 1)

theorem l05Bend_any (a b : Int) (w : World) (ha : 0 ≤ a ∧ a ≤ 7) (hb : 0 ≤ b ∧ b ≤ 7) :
    Calls Try.prog 78 #[.int .i64 a, .int .i64 b] w fun e w' => e = .returned (.int .i64 (bendT a b)) ∧ w = w' := by
  obtain ⟨d, hd⟩ : ∃ d, (b - a + 8) % 8 = d := ⟨_, rfl⟩
  have h1 : 0 ≤ d ∧ d ≤ 7 := by omega
  have h2 : Hid (bendT a b = if 4 < d then d - 8 else d) := by unfold Hid bendT; split <;> omega
  cases e : decide (4 < d)
  · have h3 : Hid (bendT a b = d) := by rw [Hid, h2.out, if_neg (of_decide_eq_false e)]
    go_enter Try.func78, Try.ntmps78
    go_wp2_with fail
    go_ret
    exact ⟨by rw [h3.out, ← hd]; rfl, rfl⟩
  · have h3 : Hid (bendT a b = d - 8) := by rw [Hid, h2.out, if_pos (of_decide_eq_true e)]
    go_enter Try.func78, Try.ntmps78
    go_wp2_with fail
    go_ret
    exact ⟨by rw [h3.out, ← hd]; rfl, rfl⟩

set_option maxHeartbeats 4000000 in
theorem iBendOf (A : Option Addr) (n c : Nat) (xs : List Pt) (w : World) (ha : Rd w A n 3 (rowOf ptC xs)) (la : xs.length = n) (hn : n ≤ 1048576) :
    Calls Try.prog 46 #[.agg #[.slice A n c]] w fun e w' => e = .returned (.tuple #[.int .i64 (bendR xs).1, .int .i64 (bendR xs).2]) ∧ Below w.heap.size w w' := by
  have hR : Hid (bendR xs = if strB xs = true then bendROk xs else (0, 1)) := rfl
  have HV := validStroke_any A n c xs (w.alloc (.cells #[.slice A n c] 35)) (ha.alloc _) la hn
  cases h1 : strB xs
  · rw [h1] at HV
    have H1 := Lib.hid h1
    clear h1
    go_enter Try.func46, Try.ntmps46
    go_wp2_with fail
    refine HV.mono ?_
    rintro e w2 ⟨rfl, hb⟩
    go_wp2_with fail
    go_ret2
    exact ⟨by rw [hR.out, H1.out]; rfl, Below.next (by go_grown) hb⟩
  · rw [h1] at HV
    have H1 := Lib.hid h1
    obtain ⟨hn1, hn60, hpt, htt⟩ := strB_true h1
    have HP : Hid (ptsB xs) := hpt
    have HT := Lib.hid htt
    rw [la] at hn1 hn60
    have HA0 := Lib.hid (ha.alloc (.cells #[.slice A n c] 35))
    have LA := Lib.hid la
    replace hR : Hid (bendR xs = bendROk xs) := by rw [Hid, hR.out, h1]; rfl
    clear h1 hpt htt ha la
    go_enter Try.func46, Try.ntmps46
    go_wp2_with fail
    refine HV.mono ?_
    rintro e w2 ⟨rfl, hb⟩
    clear HV
    have hcs : w2.cell? ⟨w.heap.size, 0, none⟩ = some (.slice A n c) := (hb.cell (p := ⟨w.heap.size, 0, none⟩) (by simp)).trans (by go_simp)
    have hws : w.heap.size < w2.heap.size := by have := hb.size; simp at this; omega
    have HA := Lib.hid (HA0.out.below hb)
    have hT : Below w.heap.size w w2 := Below.next (by go_grown) hb
    clear HA0 hb
    go_wp2_with fail
    refine (directionsOf_any A n c xs _ HA.out LA.out HP.out hn1 hn60).mono ?_
    rintro e w3 ⟨⟨v, rfl, hown⟩, hb3⟩
    have hT3 := Below.next hT hb3
    obtain ⟨L, hL⟩ : ∃ L, dirsTo xs (n - 1) = L := ⟨_, rfl⟩
    have hLb := dirsTo_bd xs (n - 1)
    have hLl := dirsTo_len xs (n - 1)
    rw [hL] at hown hLb hLl
    have HR : Hid (bendR xs = (bendTo L (L.length - 1), 0)) := by rw [Hid, hR.out, bendROk, LA.out, hL]
    clear hR hL
    obtain ⟨A2, c2, rfl, _, _, hrd⟩ := hown.rd
    obtain ⟨m, hm⟩ : ∃ m, L.length = m := ⟨_, rfl⟩
    rw [hm] at HR hrd hLl
    have HL := Lib.hid hLb
    have HM := Lib.hid hm
    have HO := Lib.hid hrd
    clear hLb hrd hown
    rw [hm]
    clear hm
    go_wp2_with fail
    go_loopw [5, 6] (fun s i wr => ∃ j : Nat, (j = 0 ∨ j + 1 ≤ m) ∧ i = .int .i64 ((j : Int) + 1) ∧ s = .int .i64 (bendTo L j) ∧ Below w3.heap.size w3 wr) (fun _ i _ => m + 1 - (intOf i).toNat)
    case atStart => exact ⟨0, by omega, rfl, rfl, Below.refl _ _⟩
    case round =>
      obtain ⟨j, hj, rfl, rfl, hB⟩ := hrel
      have hBs := hB.size
      by_cases hlt : j + 1 < m
      · have kj : j < L.length := by have := HM.out; omega
        have kj1 : j + 1 < L.length := by have := HM.out; omega
        have HOr := Lib.hid (HO.out.below hB)
        obtain ⟨b1, o1, rfl, l1, hc1⟩ := HOr.out.at iC_len HM.out kj
        obtain ⟨_, _, e0, _, hc2⟩ := HOr.out.at iC_len HM.out kj1
        cases e0
        have a1 : wr.cell? ⟨b1, o1 + j, none⟩ = some (.int .i64 L[j]) := by simpa using hc1 0 _ rfl
        have a2 : wr.cell? ⟨b1, o1 + (j + 1), none⟩ = some (.int .i64 L[j + 1]) := by simpa using hc2 0 _ rfl
        clear hc1 hc2
        have hb1 := HL.out _ (List.getElem_mem kj)
        have hb2 := HL.out _ (List.getElem_mem kj1)
        have hsb := bendTo_bd L j
        have HN : Hid (bendTo L (j + 1) = bendTo L j + bendT L[j] L[j + 1]) := bendTo_next kj1
        have hbt := bendT_bd L[j] L[j + 1]
        have hwj : IntKind.i64.wrap (j : Int) = (j : Int) := IntWalk.i64_in _ (by omega)
        have hj0 : (0 : Int) ≤ (j : Int) := by omega
        have hj1 : (0 : Int) ≤ (j : Int) + 1 := by omega
        have hjn : (j : Int) < (m : Int) := by omega
        have hjn1 : (j : Int) + 1 < (m : Int) := by omega
        have hjt : ((j : Int) + 1).toNat = j + 1 := by omega
        have hv1 : IntKind.i64.wrap (L[j + 1] - L[j]) = L[j + 1] - L[j] := IntWalk.i64_in _ (by omega)
        have hv2 : IntKind.i64.wrap (L[j + 1] - L[j] + 8) = L[j + 1] - L[j] + 8 := IntWalk.i64_in _ (by omega)
        have hv3 : IntKind.i64.wrap (L[j + 1] - L[j] + 8 + 3) = L[j + 1] - L[j] + 8 + 3 := IntWalk.i64_in _ (by omega)
        have hv4 : (L[j + 1] - L[j] + 8 + 3).tmod 8 = bendT L[j] L[j + 1] + 3 := by rw [Int.tmod_eq_emod_of_nonneg (by omega)]; unfold bendT; omega
        have hv5 : IntKind.i64.wrap (bendT L[j] L[j + 1]) = bendT L[j] L[j + 1] := IntWalk.i64_in _ (by omega)
        have hv6 : IntKind.i64.wrap (bendTo L j + bendT L[j] L[j + 1]) = bendTo L j + bendT L[j] L[j + 1] := IntWalk.i64_in _ (by omega)
        go_wp2_with fail
        go_region_held3 (fun w' => (∀ kb ko, kb < wr.heap.size → w'.cell? ⟨kb, ko, none⟩ = wr.cell? ⟨kb, ko, none⟩) ∧ wr.heap.size ≤ w'.heap.size ∧ Below wr.heap.size wr w') (first | exact SB.mk hkB | exact SB.mk ((Below.refl _ _).drew) | (go_split_ands; refine SB.mk (Below.drew ?_); assumption) | (refine SB.mk ?_; go_grown; done) | (go_split_ands; refine SB.mk ?_; go_grown; done)) (fail)
        go_split_ands
        clear hv1 hv2 hv3 hv4 hv5 hv6 hwj hjt
        go_wp2_with fail
        go_roundw
        case rel => exact ⟨j + 1, by omega, by go_num, by rw [HN.out], by first | exact Below.next hB (by assumption) | (have := Below.next hB (by assumption); go_grown)⟩
        case measure => simp [intOf]; omega
      · go_wp2_with fail
        go_ret2
        obtain rfl : j = m - 1 := by omega
        exact ⟨by rw [HR.out]; rfl, Below.next hT3 hB⟩
set_option maxHeartbeats 4000000 in
theorem sBendOf (A : Option Addr) (n c : Nat) (xs : List Pt) (w : World) (ha : Rd w A n 3 (rowOf ptC xs)) (la : xs.length = n) (hn : n ≤ 1048576) :
    Calls Try.prog 45 #[.agg #[.slice A n c]] w fun e w' => e = .returned (.tuple #[.int .i64 (bendR xs).1, .int .i64 (bendR xs).2]) ∧ Below w.heap.size w w' := by
  have hR : Hid (bendR xs = if strB xs = true then bendROk xs else (0, 1)) := rfl
  have HV := l02Stroke_any w.heap.size A n c xs (w.alloc (.cells #[.slice A n c] 35)) (by go_simp) (ha.alloc _) la hn
  cases h1 : strB xs
  · rw [h1] at HV
    have H1 := Lib.hid h1
    clear h1
    go_enter Try.func45, Try.ntmps45
    go_wp2_with fail
    refine HV.mono ?_
    rintro e w2 ⟨rfl, hb⟩
    go_wp2_with fail
    go_ret2
    exact ⟨by rw [hR.out, H1.out]; rfl, Below.next (by go_grown) hb⟩
  · rw [h1] at HV
    have H1 := Lib.hid h1
    obtain ⟨hn1, hn60, hpt, htt⟩ := strB_true h1
    have HP : Hid (ptsB xs) := hpt
    have HT := Lib.hid htt
    rw [la] at hn1 hn60
    have HA0 := Lib.hid (ha.alloc (.cells #[.slice A n c] 35))
    have LA := Lib.hid la
    replace hR : Hid (bendR xs = bendROk xs) := by rw [Hid, hR.out, h1]; rfl
    clear h1 hpt htt ha la
    go_enter Try.func45, Try.ntmps45
    go_wp2_with fail
    refine HV.mono ?_
    rintro e w2 ⟨rfl, hb⟩
    clear HV
    have hcs : w2.cell? ⟨w.heap.size, 0, none⟩ = some (.slice A n c) := (hb.cell (p := ⟨w.heap.size, 0, none⟩) (by simp)).trans (by go_simp)
    have hws : w.heap.size < w2.heap.size := by have := hb.size; simp at this; omega
    have HA := Lib.hid (HA0.out.below hb)
    have hT : Below w.heap.size w w2 := Below.next (by go_grown) hb
    clear HA0 hb
    go_wp2_with fail
    refine (l05Directions_any w.heap.size A n c xs _ hcs HA.out LA.out HP.out hn1 hn60).mono ?_
    rintro e w3 ⟨⟨v, rfl, hown⟩, hb3⟩
    have hT3 := Below.next hT hb3
    obtain ⟨L, hL⟩ : ∃ L, dirsTo xs (n - 1) = L := ⟨_, rfl⟩
    have hLb := dirsTo_bd xs (n - 1)
    have hLl := dirsTo_len xs (n - 1)
    rw [hL] at hown hLb hLl
    have HR : Hid (bendR xs = (bendTo L (L.length - 1), 0)) := by rw [Hid, hR.out, bendROk, LA.out, hL]
    clear hR hL
    obtain ⟨A2, c2, rfl, _, _, hrd⟩ := hown.rd
    obtain ⟨m, hm⟩ : ∃ m, L.length = m := ⟨_, rfl⟩
    rw [hm] at HR hrd hLl
    have HL := Lib.hid hLb
    have HM := Lib.hid hm
    have HO := Lib.hid hrd
    clear hLb hrd hown
    rw [hm]
    clear hm
    go_wp2_with fail
    go_loopw [5, 6] (fun s i wr => ∃ j : Nat, (j = 0 ∨ j + 1 ≤ m) ∧ i = .int .i64 ((j : Int) + 1) ∧ s = .int .i64 (bendTo L j) ∧ Below w3.heap.size w3 wr) (fun _ i _ => m + 1 - (intOf i).toNat)
    case atStart => exact ⟨0, by omega, rfl, rfl, Below.refl _ _⟩
    case round =>
      obtain ⟨j, hj, rfl, rfl, hB⟩ := hrel
      have hBs := hB.size
      by_cases hlt : j + 1 < m
      · have kj : j < L.length := by have := HM.out; omega
        have kj1 : j + 1 < L.length := by have := HM.out; omega
        have HOr := Lib.hid (HO.out.below hB)
        obtain ⟨b1, o1, rfl, l1, hc1⟩ := HOr.out.at iC_len HM.out kj
        obtain ⟨_, _, e0, _, hc2⟩ := HOr.out.at iC_len HM.out kj1
        cases e0
        have a1 : wr.cell? ⟨b1, o1 + j, none⟩ = some (.int .i64 L[j]) := by simpa using hc1 0 _ rfl
        have a2 : wr.cell? ⟨b1, o1 + (j + 1), none⟩ = some (.int .i64 L[j + 1]) := by simpa using hc2 0 _ rfl
        clear hc1 hc2
        have hb1 := HL.out _ (List.getElem_mem kj)
        have hb2 := HL.out _ (List.getElem_mem kj1)
        have hsb := bendTo_bd L j
        have HN : Hid (bendTo L (j + 1) = bendTo L j + bendT L[j] L[j + 1]) := bendTo_next kj1
        have hbt := bendT_bd L[j] L[j + 1]
        have hwj : IntKind.i64.wrap (j : Int) = (j : Int) := IntWalk.i64_in _ (by omega)
        have hj0 : (0 : Int) ≤ (j : Int) := by omega
        have hj1 : (0 : Int) ≤ (j : Int) + 1 := by omega
        have hjn : (j : Int) < (m : Int) := by omega
        have hjn1 : (j : Int) + 1 < (m : Int) := by omega
        have hjt : ((j : Int) + 1).toNat = j + 1 := by omega
        have hv6 : IntKind.i64.wrap (bendTo L j + bendT L[j] L[j + 1]) = bendTo L j + bendT L[j] L[j + 1] := IntWalk.i64_in _ (by omega)
        go_wp2_with fail
        go_region_held3 (fun w' => (∀ kb ko, kb < wr.heap.size → w'.cell? ⟨kb, ko, none⟩ = wr.cell? ⟨kb, ko, none⟩) ∧ wr.heap.size ≤ w'.heap.size ∧ Below wr.heap.size wr w') (first | exact SB.mk hkB | exact SB.mk ((Below.refl _ _).drew) | (go_split_ands; refine SB.mk (Below.drew ?_); assumption) | (refine SB.mk ?_; go_grown; done) | (go_split_ands; refine SB.mk ?_; go_grown; done)) ((go_at_call 78; refine (l05Bend_any _ _ _ hb1 hb2).mono ?_; rintro e w' ⟨rfl, rfl⟩))
        go_split_ands
        clear hv6 hwj hjt
        go_wp2_with fail
        go_roundw
        case rel => exact ⟨j + 1, by omega, by go_num, by rw [HN.out], by first | exact Below.next hB (by assumption) | (have := Below.next hB (by assumption); go_grown)⟩
        case measure => simp [intOf]; omega
      · go_wp2_with fail
        go_ret2
        obtain rfl : j = m - 1 := by omega
        exact ⟨by rw [HR.out]; rfl, Below.next hT3 hB⟩end Go.Proofs.Ytcglcfjonicjgaa
