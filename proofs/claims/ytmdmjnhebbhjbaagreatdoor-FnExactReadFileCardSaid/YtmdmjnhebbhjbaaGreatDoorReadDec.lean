/-
  Reading a decimal text: the reference's digits.
-/
import Derived.Test.YtmdmjnhebbhjbaaGreatDoorReadDecPlain
import Derived.Test.YtmdmjnhebbhjbaaGreatDoorStra
import Derived.Test.YtmdmjnhebbhjbaaGreatDoorDecimal
import Derived.Test.YtmdmjnhebbhjbaaGreatDoorBitsa
namespace Go.Proofs.YtmdmjnhebbhjbaaGreatDoor
set_option linter.unusedSimpArgs false
set_option linter.unusedVariables false
set_option maxRecDepth 20000
open Go.RowKit
open Go.ChangeShapes Go.WideShapes Go.Deep Go.Joins

theorem l01Digit_is {c : Int} {b : Bool} (h : Hid (decide (48 ≤ c ∧ c ≤ 57) = b)) (w : World) :
    Calls Tryz.prog 139 #[.int .u8 c] w fun e w' => e = .returned (.bool b) ∧ w = w' := by
  rw [← h.out]
  by_cases h1 : 48 ≤ c <;> by_cases h2 : c ≤ 57
  all_goals
    go_enter Tryz.func139, Tryz.ntmps139
    go_wp2_with fail
    go_ret
    exact ⟨ret_bool (by simp [h1, h2]), rfl⟩
theorem isDg_int (c : UInt8) : decide (48 ≤ (c.toNat : Int) ∧ (c.toNat : Int) ≤ 57) = isDg c := by
  unfold isDg
  exact decide_eq_decide.2 ⟨fun h => ⟨by omega, by omega⟩, fun h => ⟨by omega, by omega⟩⟩
theorem take_all_dg {l : List UInt8} {k : Nat} (h : k < l.length) (h1 : (l.take k).all isDg = true) (h2 : isDg l[k] = true) : (l.take (k + 1)).all isDg = true := by
  rw [List.take_succ_eq_append_getElem h, List.all_append, h1]
  simp [h2]
def decV (r : Int × Bool) : Ending := .returned (.tuple #[.int .i64 r.1, .bool r.2])
theorem toList_data (s : ByteArray) : s.toList = s.data.toList := ByteArray.toList_eq s
theorem txt_eq {y s : ByteArray} {l : List UInt8} {b : Bool} (hy : (⟨l.toArray⟩ : ByteArray) = y) (h : (l == s.data.toList) = b) : (y.toList == s.toList) = b := by
  rw [← hy, toList_data, toList_data]; exact h
set_option maxHeartbeats 4000000 in
theorem l01Number_neg (s t : ByteArray) (hs : s.size ≤ 1048576) (hpos : 0 < s.size) (h0 : s[0] = 45) (ht : s.extract 1 s.size = t) (w : World) :
    Calls Tryz.prog 120 #[.string s] w fun e w' => e = decV (decR s.data.toList) ∧ Below w.heap.size w w' := by
  have hts : t.size = s.size - 1 := by rw [← ht]; simp
  have htl : t.data.toList = s.data.toList.drop 1 := by rw [← ht, ByteArray.data_extract, Array.toList_extract]; apply List.take_of_length_le; rw [List.length_drop]; exact Nat.le_refl _
  have hcons : s.data.toList = 45 :: t.data.toList := by
    rw [htl]
    have h1 : s.data.toList[0]? = some 45 := by rw [at_list hpos, h0]
    cases hl : s.data.toList with
    | nil => rw [hl] at h1; cases h1
    | cons c r => rw [hl] at h1; simp at h1; subst h1; rfl
  have HNG : Hid (negD s.data.toList = true) := by rw [Hid, hcons]; rfl
  have HT : Hid (tailD s.data.toList = t.data.toList) := by rw [Hid, hcons]; rfl
  have HTL : Hid (t.data.toList.length = t.size) := Array.length_toList
  have hemp : s.toList.isEmpty = false := by rw [List.isEmpty_eq_false_iff, toList_data, hcons]; simp
  have ev : (s[0].toNat : Int) = 45 := by rw [h0]; rfl
  have hex : s.extract 1 s.size = t := ht
  clear htl hcons h0 ht
  by_cases hlen : 1 ≤ t.size ∧ t.size ≤ 18
  · obtain ⟨hl1, hl2⟩ := hlen
    go_enter Tryz.func120, Tryz.ntmps120
    go_wp2_with fail
    go_loop [5, 6] (fun n i => ∃ k v : Nat, k ≤ t.size ∧ i = .int .i64 (k : Int) ∧ n = .int .i64 (v : Int) ∧ v ≤ 1000000000000000000 ∧ Hid (valD (t.data.toList.take k) = v) ∧ Hid ((t.data.toList.take k).all isDg = true)) (fun _ i => t.size - (intOf i).toNat)
    case atStart => exact ⟨0, 0, Nat.zero_le _, rfl, rfl, by omega, rfl, rfl⟩
    case round =>
      obtain ⟨k, v, hk, rfl, rfl, hv, hval, hall⟩ := hrel
      have hk0 : (0 : Int) ≤ (k : Int) := by omega
      by_cases hlt : k < t.size
      · have hkl : k < t.data.toList.length := by rw [HTL.out]; exact hlt
        have he : t.data.toList[k] = t[k] := rfl
        cases hd : isDg t[k]
        · have HD : Hid (decide (48 ≤ (t[k].toNat : Int) ∧ (t[k].toNat : Int) ≤ 57) = false) := by rw [Hid, isDg_int]; exact hd
          have hr : Hid (decR s.data.toList = (0, false)) := decR_dg (by
            rw [HT.out, List.all_eq_false]
            exact ⟨t[k], List.mem_of_getElem? (at_list hlt), by rw [hd]; simp⟩)
          clear hd he
          go_wp2_with (go_at_call 139; refine (l01Digit_is HD _).mono ?_; rintro e w' ⟨rfl, rfl⟩)
          refine bodyPost_ret (by simp [results, Tryz.results120, go_sem, *]; try rfl) rfl ?_
          exact ⟨by rw [hr.out]; rfl, by first | exact Below.refl _ _ | go_grown⟩
        · have HD : Hid (decide (48 ≤ (t[k].toNat : Int) ∧ (t[k].toNat : Int) ≤ 57) = true) := by rw [Hid, isDg_int]; exact hd
          have hdb := of_decide_eq_true hd
          have hnx := valD_take hkl
          rw [hval.out, he] at hnx
          have hal := Lib.hid (take_all_dg hkl hall.out hd)
          have hb9 := valD_bd hal.out
          rw [List.length_take, Nat.min_eq_left (by omega)] at hb9
          have hb8 := p10_le (k := k + 1) (by omega)
          rw [hnx] at hb9
          have hnv := Lib.hid hnx
          obtain ⟨c, hc⟩ : ∃ c, t[k].toNat = c := ⟨_, rfl⟩
          rw [hc] at hdb hb9 hnv HD
          have hcI : (t[k].toNat : Int) = (c : Int) := by omega
          have hcb : 48 ≤ c ∧ c ≤ 57 := hdb
          obtain ⟨hc1, hc2⟩ := hcb
          have hw1 : v * 10 + (c - 48) ≤ 1000000000000000000 := by omega
          clear hd he hnx hb9 hb8 hdb hc
          go_wp2_with (go_at_call 139; refine (l01Digit_is HD _).mono ?_; rintro e w' ⟨rfl, rfl⟩)
          go_round
          case rel => exact ⟨k + 1, v * 10 + (c - 48), by omega, by go_num, by congr 1; omega, hw1, hnv, hal⟩
          case measure => (simp [intOf]; try omega)
      · obtain rfl : k = t.size := by omega
        have hfull : t.data.toList.take t.size = t.data.toList := List.take_of_length_le (by rw [HTL.out]; exact Nat.le_refl _)
        have hal := hall.out
        rw [hfull] at hal
        have hva := hval.out
        rw [hfull] at hva
        have hnum : numD s.data.toList = (-(v : Int)) := by unfold numD; rw [HNG.out, HT.out, hva]; rfl
        have HAL := Lib.hid hal
        have hbd := numD_bd (l := s.data.toList) (by rw [HT.out, HTL.out]; omega) (by rw [HT.out]; exact hal)
        rw [hnum] at hbd
        obtain ⟨z, hz⟩ : ∃ z : Int, (-(v : Int)) = z := ⟨_, rfl⟩
        rw [hz] at hnum hbd
        obtain ⟨hbd1, hbd2⟩ := hbd
        obtain ⟨y, hy⟩ : ∃ y, (⟨(Lib.itoa z).toArray⟩ : ByteArray) = y := ⟨_, rfl⟩
        have hdec := fun W => l01Dec_any z (by omega) (by omega) W
        rw [hy] at hdec
        have HDEC := Lib.hid hdec
        have HNUM := Lib.hid hnum
        have hzw : IntKind.i64.wrap (-(v : Int)) = z := by rw [hz]; exact IntWalk.i64_in _ (by omega)
        clear hz
        cases hq : (Lib.itoa z == s.data.toList)
        · have hr : Hid (decR s.data.toList = (0, false)) := decR_txt (by rw [HNUM.out]; exact fun e => by rw [e] at hq; simp at hq)
          have ht := txt_eq hy hq
          clear hq hy hdec hnum hal hva hfull
          go_wp2_with fail
          refine (HDEC.out _).mono ?_
          rintro e w2 ⟨rfl, hb2⟩
          go_wp2_with fail
          refine bodyPost_ret (by simp [results, Tryz.results120, go_sem, *]; try rfl) rfl ?_
          exact ⟨by rw [hr.out]; rfl, hb2⟩
        · have hr : Hid (decR s.data.toList = (z, true)) := by
            rw [Hid, ← HNUM.out]
            exact decR_ok (by rw [HT.out, HTL.out]; omega) (by rw [HT.out, HTL.out]; omega) (by rw [HT.out]; exact HAL.out) (by rw [HNUM.out]; simpa using hq)
          have ht := txt_eq hy hq
          clear hq hy hdec hnum hal hva hfull
          go_wp2_with fail
          refine (HDEC.out _).mono ?_
          rintro e w2 ⟨rfl, hb2⟩
          go_wp2_with fail
          refine bodyPost_ret (by simp [results, Tryz.results120, go_sem, *]; try rfl) rfl ?_
          exact ⟨by rw [hr.out]; rfl, hb2⟩
  · have hr : Hid (decR s.data.toList = (0, false)) := decR_len (by rw [HT.out, HTL.out]; exact hlen)
    by_cases h18 : t.size < 1
    · go_enter Tryz.func120, Tryz.ntmps120
      go_wp2_with fail
      refine bodyPost_ret (by simp [results, Tryz.results120, go_sem, *]; try rfl) rfl ?_
      exact ⟨by rw [hr.out]; rfl, by first | exact Below.refl _ _ | go_grown⟩
    · have h19 : 18 < t.size := by omega
      go_enter Tryz.func120, Tryz.ntmps120
      go_wp2_with fail
      refine bodyPost_ret (by simp [results, Tryz.results120, go_sem, *]; try rfl) rfl ?_
      exact ⟨by rw [hr.out]; rfl, by first | exact Below.refl _ _ | go_grown⟩
set_option maxHeartbeats 4000000 in
theorem l01Number_pos (s : ByteArray) (hs : s.size ≤ 1048576) (hpos : 0 < s.size) (h0 : ¬ s[0] = 45) (w : World) :
    Calls Tryz.prog 120 #[.string s] w fun e w' => e = decV (decR s.data.toList) ∧ Below w.heap.size w w' := by
  obtain ⟨c, r, hcons, hc⟩ : ∃ c r, s.data.toList = c :: r ∧ ¬ c = 45 := by
    have h1 : s.data.toList[0]? = some s[0] := at_list hpos
    cases hl : s.data.toList with
    | nil => rw [hl] at h1; cases h1
    | cons c r => rw [hl] at h1; simp at h1; exact ⟨c, r, rfl, by rw [h1]; exact h0⟩
  have HNG : Hid (negD s.data.toList = false) := by rw [Hid, hcons, negD_cons]; simp [hc]
  have HT : Hid (tailD s.data.toList = s.data.toList) := by unfold Hid tailD; rw [HNG.out]; rfl
  have HTL : Hid (s.data.toList.length = s.size) := Array.length_toList
  have hemp : s.toList.isEmpty = false := by rw [List.isEmpty_eq_false_iff, toList_data, hcons]; simp
  have ev : ((s[0].toNat : Int) == 45) = false := beq_eq_false_iff_ne.2 fun e => h0 (by apply UInt8.toNat_inj.1; show _ = 45; omega)
  clear hcons hc h0
  by_cases hlen : 1 ≤ s.size ∧ s.size ≤ 18
  · obtain ⟨hl1, hl2⟩ := hlen
    go_enter Tryz.func120, Tryz.ntmps120
    go_wp2_with fail
    go_loop [5, 6] (fun n i => ∃ k v : Nat, k ≤ s.size ∧ i = .int .i64 (k : Int) ∧ n = .int .i64 (v : Int) ∧ v ≤ 1000000000000000000 ∧ Hid (valD (s.data.toList.take k) = v) ∧ Hid ((s.data.toList.take k).all isDg = true)) (fun _ i => s.size - (intOf i).toNat)
    case atStart => exact ⟨0, 0, Nat.zero_le _, rfl, rfl, by omega, rfl, rfl⟩
    case round =>
      obtain ⟨k, v, hk, rfl, rfl, hv, hval, hall⟩ := hrel
      have hk0 : (0 : Int) ≤ (k : Int) := by omega
      by_cases hlt : k < s.size
      · have hkl : k < s.data.toList.length := by rw [HTL.out]; exact hlt
        have he : s.data.toList[k] = s[k] := rfl
        cases hd : isDg s[k]
        · have HD : Hid (decide (48 ≤ (s[k].toNat : Int) ∧ (s[k].toNat : Int) ≤ 57) = false) := by rw [Hid, isDg_int]; exact hd
          have hr : Hid (decR s.data.toList = (0, false)) := decR_dg (by
            rw [HT.out, List.all_eq_false]
            exact ⟨s[k], List.mem_of_getElem? (at_list hlt), by rw [hd]; simp⟩)
          clear hd he
          go_wp2_with (go_at_call 139; refine (l01Digit_is HD _).mono ?_; rintro e w' ⟨rfl, rfl⟩)
          refine bodyPost_ret (by simp [results, Tryz.results120, go_sem, *]; try rfl) rfl ?_
          exact ⟨by rw [hr.out]; rfl, by first | exact Below.refl _ _ | go_grown⟩
        · have HD : Hid (decide (48 ≤ (s[k].toNat : Int) ∧ (s[k].toNat : Int) ≤ 57) = true) := by rw [Hid, isDg_int]; exact hd
          have hdb := of_decide_eq_true hd
          have hnx := valD_take hkl
          rw [hval.out, he] at hnx
          have hal := Lib.hid (take_all_dg hkl hall.out hd)
          have hb9 := valD_bd hal.out
          rw [List.length_take, Nat.min_eq_left (by omega)] at hb9
          have hb8 := p10_le (k := k + 1) (by omega)
          rw [hnx] at hb9
          have hnv := Lib.hid hnx
          obtain ⟨c, hc⟩ : ∃ c, s[k].toNat = c := ⟨_, rfl⟩
          rw [hc] at hdb hb9 hnv HD
          have hcI : (s[k].toNat : Int) = (c : Int) := by omega
          have hcb : 48 ≤ c ∧ c ≤ 57 := hdb
          obtain ⟨hc1, hc2⟩ := hcb
          have hw1 : v * 10 + (c - 48) ≤ 1000000000000000000 := by omega
          clear hd he hnx hb9 hb8 hdb hc
          go_wp2_with (go_at_call 139; refine (l01Digit_is HD _).mono ?_; rintro e w' ⟨rfl, rfl⟩)
          go_round
          case rel => exact ⟨k + 1, v * 10 + (c - 48), by omega, by go_num, by congr 1; omega, hw1, hnv, hal⟩
          case measure => (simp [intOf]; try omega)
      · obtain rfl : k = s.size := by omega
        have hfull : s.data.toList.take s.size = s.data.toList := List.take_of_length_le (by rw [HTL.out]; exact Nat.le_refl _)
        have hal := hall.out
        rw [hfull] at hal
        have hva := hval.out
        rw [hfull] at hva
        have hnum : numD s.data.toList = (v : Int) := by unfold numD; rw [HNG.out, HT.out, hva]; rfl
        have HAL := Lib.hid hal
        have hbd := numD_bd (l := s.data.toList) (by rw [HT.out, HTL.out]; omega) (by rw [HT.out]; exact hal)
        rw [hnum] at hbd
        obtain ⟨z, hz⟩ : ∃ z : Int, (v : Int) = z := ⟨_, rfl⟩
        rw [hz] at hnum hbd
        obtain ⟨hbd1, hbd2⟩ := hbd
        obtain ⟨y, hy⟩ : ∃ y, (⟨(Lib.itoa z).toArray⟩ : ByteArray) = y := ⟨_, rfl⟩
        have hdec := fun W => l01Dec_any z (by omega) (by omega) W
        rw [hy] at hdec
        have HDEC := Lib.hid hdec
        have HNUM := Lib.hid hnum
        obtain rfl : (v : Int) = z := hz
        cases hq : (Lib.itoa (v : Int) == s.data.toList)
        · have hr : Hid (decR s.data.toList = (0, false)) := decR_txt (by rw [HNUM.out]; exact fun e => by rw [e] at hq; simp at hq)
          have ht := txt_eq hy hq
          clear hq hy hdec hnum hal hva hfull
          go_wp2_with fail
          refine (HDEC.out _).mono ?_
          rintro e w2 ⟨rfl, hb2⟩
          go_wp2_with fail
          refine bodyPost_ret (by simp [results, Tryz.results120, go_sem, *]; try rfl) rfl ?_
          exact ⟨by rw [hr.out]; rfl, hb2⟩
        · have hr : Hid (decR s.data.toList = ((v : Int), true)) := by
            rw [Hid, ← HNUM.out]
            exact decR_ok (by rw [HT.out, HTL.out]; omega) (by rw [HT.out, HTL.out]; omega) (by rw [HT.out]; exact HAL.out) (by rw [HNUM.out]; simpa using hq)
          have ht := txt_eq hy hq
          clear hq hy hdec hnum hal hva hfull
          go_wp2_with fail
          refine (HDEC.out _).mono ?_
          rintro e w2 ⟨rfl, hb2⟩
          go_wp2_with fail
          refine bodyPost_ret (by simp [results, Tryz.results120, go_sem, *]; try rfl) rfl ?_
          exact ⟨by rw [hr.out]; rfl, hb2⟩
  · have hr : Hid (decR s.data.toList = (0, false)) := decR_len (by rw [HT.out, HTL.out]; exact hlen)
    have h19 : 18 < s.size := by omega
    go_enter Tryz.func120, Tryz.ntmps120
    go_wp2_with fail
    refine bodyPost_ret (by simp [results, Tryz.results120, go_sem, *]; try rfl) rfl ?_
    exact ⟨by rw [hr.out]; rfl, by first | exact Below.refl _ _ | go_grown⟩
theorem l01Number_none (s : ByteArray) (h0 : s.size = 0) (w : World) :
    Calls Tryz.prog 120 #[.string s] w fun e w' => e = decV (decR s.data.toList) ∧ Below w.heap.size w w' := by
  have hl : s.data.toList = [] := List.eq_nil_of_length_eq_zero (by rw [Array.length_toList]; exact h0)
  have hr : Hid (decR s.data.toList = (0, false)) := by rw [Hid, hl]; rfl
  have hemp : s.toList.isEmpty = true := by rw [List.isEmpty_iff, toList_data, hl]
  have h1 : s.size < 1 := by omega
  clear hl h0
  go_enter Tryz.func120, Tryz.ntmps120
  go_wp2_with fail
  refine bodyPost_ret (by simp [results, Tryz.results120, go_sem, *]; try rfl) rfl ?_
  exact ⟨by rw [hr.out]; rfl, by first | exact Below.refl _ _ | go_grown⟩
theorem l01Number_any (s : ByteArray) (hs : s.size ≤ 1048576) (w : World) :
    Calls Tryz.prog 120 #[.string s] w fun e w' => e = decV (decR s.data.toList) ∧ Below w.heap.size w w' := by
  by_cases h : s.size = 0
  · exact l01Number_none s h w
  · by_cases h0 : s[0] = 45
    · exact l01Number_neg s _ hs (by omega) h0 rfl w
    · exact l01Number_pos s hs (by omega) h0 w
end Go.Proofs.YtmdmjnhebbhjbaaGreatDoor
