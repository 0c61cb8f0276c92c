/-
  The number whose Rice code begins at an index: program and reference read the same.
-/
import Derived.Test.YtmdmjnhebbhjbaaGreatDoorRicePlain
import Derived.Test.YtmdmjnhebbhjbaaGreatDoorSmall
namespace Go.Proofs.YtmdmjnhebbhjbaaGreatDoor
set_option linter.unusedSimpArgs false
set_option linter.unusedVariables false
set_option maxRecDepth 20000
open Go.RowKit
open Go.ChangeShapes Go.WideShapes Go.Deep Go.Joins

def resI (n : Int) : Bool := inB n (-1000000000) 1000000000
theorem isResidual_is {n : Int} {b : Bool} (h : Hid (resI n = b)) (w : World) : Calls Tryz.prog 159 #[.int .i64 n] w fun e w' => e = .returned (.bool b) ∧ w = w' := by
  go_enter Tryz.func159, Tryz.ntmps159
  go_wp2_with (go_at_call 111; refine (within_any _ _ _ _).mono ?_; rintro e w' ⟨rfl, rfl⟩)
  go_ret
  exact ⟨ret_bool h.out, rfl⟩
theorem l04Res_is {n : Int} {b : Bool} (h : Hid (resI n = b)) (w : World) : Calls Tryz.prog 154 #[.int .i64 n] w fun e w' => e = .returned (.bool b) ∧ w = w' := by
  go_enter Tryz.func154, Tryz.ntmps154
  go_wp2_with (go_at_call 103; refine (l00In_any _ _ _ _).mono ?_; rintro e w' ⟨rfl, rfl⟩)
  go_ret
  exact ⟨ret_bool h.out, rfl⟩
theorem unfolded_z {z x : Int} {u : Nat} (hz : z = (u : Int)) (hx : Hid (unfI u = x)) (hu : u ≤ 8589934592) (w : World) : Calls Tryz.prog 158 #[.int .i64 z] w fun e w' => e = .returned (.int .i64 x) ∧ w = w' := by
  rw [hz, ← hx.out]; exact unfolded_any u hu w
theorem l04Unfold_z {z x : Int} {u : Nat} (hz : z = (u : Int)) (hx : Hid (unfI u = x)) (hu : u ≤ 8589934592) (w : World) : Calls Tryz.prog 153 #[.int .i64 z] w fun e w' => e = .returned (.int .i64 x) ∧ w = w' := by
  rw [hz, ← hx.out]; exact l04Unfold_any u hu w
def valAt (s : ByteArray) (f m : Nat) : Nat := valB ((s.data.toList.drop f).take m)
theorem all_drop {p : UInt8 → Bool} {l : List UInt8} (f m : Nat) (h : l.all p = true) : ((l.drop f).take m).all p = true :=
  List.all_eq_true.2 fun x hx => List.all_eq_true.1 h x (List.mem_of_mem_drop (List.mem_of_mem_take hx))
theorem ext_list2 (s : ByteArray) (f t : Nat) : (s.extract f t).data.toList = (s.data.toList.drop f).take (t - f) := by
  rw [ByteArray.data_extract, Array.toList_extract] <;> rfl
theorem ext_end (s : ByteArray) (f : Nat) : (s.extract f s.size).data.toList = s.data.toList.drop f := by
  rw [ext_list2]
  apply List.take_of_length_le
  rw [List.length_drop]
  exact Nat.le_refl _
theorem valAt_bd (s : ByteArray) (f m : Nat) (hall : s.data.toList.all isBit = true) : valAt s f m < 2 ^ m := by
  have h1 := valB_bd (all_drop f m hall)
  have h2 : ((s.data.toList.drop f).take m).length ≤ m := List.length_take_le _ _
  have h3 := Nat.pow_le_pow_right (n := 2) (by omega) h2
  unfold valAt; omega
theorem readNumber_at (s : ByteArray) (hs : s.size ≤ 1048576) (hall : Hid (s.data.toList.all isBit = true)) (f m v : Nat) (hf : f + m ≤ s.size) (h32 : m ≤ 32) (hv : Hid (valAt s f m = v)) (w : World) :
    Calls Tryz.prog 92 #[.string (s.extract f s.size), .int .i64 (m : Int)] w fun e w' => e = .returned (.int .i64 (v : Int)) ∧ w = w' := by
  have hz : (s.extract f s.size).size = s.size - f := by simp
  have h := readNumber_any (s.extract f s.size) m (by omega) h32 (by omega) (by rw [ext_end]; exact List.all_eq_true.2 fun x hx => List.all_eq_true.1 hall.out x (List.mem_of_mem_drop hx)) w
  rw [ext_end, show valB ((s.data.toList.drop f).take m) = v from hv.out] at h
  exact h
theorem l04Value_at (s : ByteArray) (hs : s.size ≤ 1048576) (hall : Hid (s.data.toList.all isBit = true)) (f t m v : Nat) (ht : Hid (f + m = t)) (hf : t ≤ s.size) (h32 : m ≤ 32) (hv : Hid (valAt s f m = v)) (w : World) :
    Calls Tryz.prog 82 #[.string (s.extract f t)] w fun e w' => e = .returned (.int .i64 (v : Int)) ∧ w = w' := by
  have hm : t - f = m := by have := ht.out; omega
  have hz : (s.extract f t).size = t - f := by simp; (try omega)
  have h := l04Value_any (s.extract f t) (by omega) (by rw [ext_list2]; exact all_drop f _ hall.out) w
  rw [ext_list2, hm, show valB ((s.data.toList.drop f).take m) = v from hv.out] at h
  exact h

/-- what a Rice code reads as: the number, the index behind it, a code -/
def riceRd (s : ByteArray) (a k q : Nat) : Int × Int × Int :=
  if q = 20 then
    if s.size < a + q + 32 then (0, 0, 9)
    else if valAt s (a + q) 32 / 2 ^ k < 20 ∨ resI (unfI (valAt s (a + q) 32)) = false then (0, 0, 8)
    else (unfI (valAt s (a + q) 32), ((a + q + 32 : Nat) : Int), 0)
  else if s.size < a + q + 1 + k then (0, 0, 9)
  else (unfI (q * 2 ^ k + valAt s (a + q + 1) k), ((a + q + 1 + k : Nat) : Int), 0)
def ret3 (r : Int × Int × Int) : Ending := .returned (.tuple #[.int .i64 r.1, .int .i64 r.2.1, .int .i64 r.2.2])
theorem ret3_is {s : ByteArray} {a k q : Nat} {x y z : Int} (h : riceRd s a k q = (x, y, z)) : Ending.returned (.tuple #[.int .i64 x, .int .i64 y, .int .i64 z]) = ret3 (riceRd s a k q) := by rw [h]; rfl
theorem rd_long_cut {s : ByteArray} {a k q : Nat} (hq : q = 20) (h : s.size < a + q + 32) : riceRd s a k q = (0, 0, 9) := by rw [riceRd, if_pos hq, if_pos h]
theorem rd_long_bad {s : ByteArray} {a k q : Nat} (hq : q = 20) (h : ¬ s.size < a + q + 32) (h2 : valAt s (a + q) 32 / 2 ^ k < 20 ∨ resI (unfI (valAt s (a + q) 32)) = false) : riceRd s a k q = (0, 0, 8) := by rw [riceRd, if_pos hq, if_neg h, if_pos h2]
theorem rd_long {s : ByteArray} {a k q : Nat} (hq : q = 20) (h : ¬ s.size < a + q + 32) (h2 : ¬ (valAt s (a + q) 32 / 2 ^ k < 20 ∨ resI (unfI (valAt s (a + q) 32)) = false)) : riceRd s a k q = (unfI (valAt s (a + q) 32), ((a + q + 32 : Nat) : Int), 0) := by rw [riceRd, if_pos hq, if_neg h, if_neg h2]
theorem rd_cut {s : ByteArray} {a k q : Nat} (hq : ¬ q = 20) (h : s.size < a + q + 1 + k) : riceRd s a k q = (0, 0, 9) := by rw [riceRd, if_neg hq, if_pos h]
theorem rd_short {s : ByteArray} {a k q : Nat} (hq : ¬ q = 20) (h : ¬ s.size < a + q + 1 + k) : riceRd s a k q = (unfI (q * 2 ^ k + valAt s (a + q + 1) k), ((a + q + 1 + k : Nat) : Int), 0) := by rw [riceRd, if_neg hq, if_neg h]
theorem pow12n {k : Nat} (h : k ≤ 12) : 1 ≤ 2 ^ k ∧ 2 ^ k ≤ 4096 := ⟨Nat.one_le_two_pow, Nat.pow_le_pow_right (n := 2) (by omega) h⟩
theorem cast_div (v k : Nat) : (v : Int) / 2 ^ k = ((v / 2 ^ k : Nat) : Int) := by simp
theorem cast_mul (q k : Nat) : (q : Int) * 2 ^ k = ((q * 2 ^ k : Nat) : Int) := by simp
set_option maxHeartbeats 3000000 in
theorem readRice_any (s : ByteArray) (hs : s.size ≤ 1048576) (hall : s.data.toList.all isBit = true) (a k q : Nat) (ha : a ≤ s.size) (hk : k ≤ 12) (ho : OnesAt s a q) (w : World) :
    Calls Tryz.prog 130 #[.string s, .int .i64 (a : Int), .int .i64 (k : Int)] w fun e w' => e = ret3 (riceRd s a k q) ∧ Below w.heap.size w w' := by
  have HA := Lib.hid hall
  have HO := Lib.hid ho
  have hq20 := ho.le
  have hfit := ho.fit
  obtain ⟨t, ht⟩ : ∃ t, a + q = t := ⟨_, rfl⟩
  have HT := Lib.hid ht
  rw [ht] at hfit
  clear hall ho ht
  go_enter Tryz.func130, Tryz.ntmps130
  go_wp2_with fail
  go_loop [1, 10] (fun b i => ∃ j p : Nat, j ≤ q ∧ p ≤ t ∧ b = .int .i64 (p : Int) ∧ i = .int .i64 (j : Int) ∧ Hid (a + j = p)) (fun _ i => q - (intOf i).toNat)
  case atStart => exact ⟨0, a, Nat.zero_le _, by have := HT.out; omega, rfl, rfl, rfl⟩
  case round =>
    obtain ⟨j, p, hj, hp, rfl, rfl, hjp⟩ := hrel
    by_cases hlt : j < q
    · have hps : p < s.size := by have := HT.out; have := hjp.out; omega
      have hb : s[p] = 49 := by
        have h1 := HO.out.one j hlt (by rw [hjp.out]; exact hps)
        have h2 := hjp.out
        subst h2
        exact h1
      have ev : (s[p].toNat : Int) = 49 := by rw [hb]; rfl
      have hj20 : (j : Int) < 20 := by omega
      have hnx : Hid (a + (j + 1) = p + 1) := by have := hjp.out; rw [Hid]; omega
      have hpt : p + 1 ≤ t := by have := HT.out; have := hjp.out; omega
      clear hb
      go_wp2_with fail
      go_round
      case rel => exact ⟨j + 1, p + 1, hlt, hpt, by go_num, by go_num, hnx⟩
      case measure => (simp [intOf]; try omega)
    · obtain rfl : j = q := by omega
      obtain rfl : p = t := by have := HT.out; have := hjp.out; omega
      by_cases hq : j = 20
      · obtain rfl : j = 20 := hq
        have HQ := Lib.hid (show (20 : Nat) = 20 from rfl)
        rcases Nat.lt_or_ge s.size (p + 32) with hcut | hlong
        · have hr := Lib.hid (ret3_is (rd_long_cut (s := s) (a := a) (k := k) (q := 20) rfl (by rw [HT.out]; exact hcut)))
          rcases Nat.lt_or_ge p s.size with hps | hps
          · by_cases hb : s[p] = 49
            · have ev : (s[p].toNat : Int) = 49 := by rw [hb]; rfl
              clear hb
              go_wp2_with fail
              refine bodyPost_ret (by simp [results, Tryz.results130, go_sem, *]; try rfl) rfl ?_
              exact ⟨hr.out, Below.refl _ _⟩
            · have ev : ((s[p].toNat : Int) == 49) = false := beq_eq_false_iff_ne.2 fun e => hb (by apply UInt8.toNat_inj.1; show _ = 49; omega)
              clear hb
              go_wp2_with fail
              refine bodyPost_ret (by simp [results, Tryz.results130, go_sem, *]; try rfl) rfl ?_
              exact ⟨hr.out, Below.refl _ _⟩
          · obtain rfl : p = s.size := by omega
            go_wp2_with fail
            refine bodyPost_ret (by simp [results, Tryz.results130, go_sem, *]; try rfl) rfl ?_
            exact ⟨hr.out, Below.refl _ _⟩
        · obtain ⟨u, hu⟩ : ∃ u, valAt s p 32 = u := ⟨_, rfl⟩
          have hub : u < 4294967296 := by rw [← hu]; exact valAt_bd s p 32 HA.out
          obtain ⟨x, hx⟩ : ∃ x, unfI u = x := ⟨_, rfl⟩
          obtain ⟨d, hd⟩ : ∃ d, u / 2 ^ k = d := ⟨_, rfl⟩
          have hdi : (u : Int) / 2 ^ k = (d : Int) := by rw [cast_div, hd]
          have HU := Lib.hid hu
          have HX := Lib.hid hx
          have hps : p < s.size := by omega
          have hsub := readNumber_at s hs HA p 32 u hlong (by omega) HU
          have ev : Hid ((s[p].toNat : Int) = 49 ∨ ((s[p].toNat : Int) == 49) = false) := by
            rw [Hid]
            by_cases e : (s[p].toNat : Int) = 49
            · exact .inl e
            · exact .inr (beq_eq_false_iff_ne.2 e)
          have HSUB := Lib.hid hsub
          clear hsub
          cases hres : resI x
          · have hr := Lib.hid (ret3_is (rd_long_bad (s := s) (a := a) (k := k) (q := 20) rfl (by rw [HT.out]; omega) (by rw [HT.out, hu, hx]; exact .inr hres)))
            have HR := Lib.hid hres
            clear hres hu hx hd
            rcases ev.out with ev2 | ev2
            all_goals
              go_wp2_with (first | (go_at_call 92; refine (HSUB.out _).mono ?_; rintro e w' ⟨rfl, rfl⟩) | (go_at_call 158; refine (unfolded_z rfl HX (by omega) _).mono ?_; rintro e w' ⟨rfl, rfl⟩) | (go_at_call 159; refine (isResidual_is HR _).mono ?_; rintro e w' ⟨rfl, rfl⟩))
              refine bodyPost_ret (by simp [results, Tryz.results130, go_sem, *]; try rfl) rfl ?_
              exact ⟨hr.out, Below.refl _ _⟩
          · rcases Nat.lt_or_ge d 20 with hd20 | hd20
            · have hr := Lib.hid (ret3_is (rd_long_bad (s := s) (a := a) (k := k) (q := 20) rfl (by rw [HT.out]; omega) (by rw [HT.out, hu, hd]; exact .inl hd20)))
              have HR := Lib.hid hres
              clear hres hu hx hd
              rcases ev.out with ev2 | ev2
              all_goals
                go_wp2_with (first | (go_at_call 92; refine (HSUB.out _).mono ?_; rintro e w' ⟨rfl, rfl⟩) | (go_at_call 158; refine (unfolded_z rfl HX (by omega) _).mono ?_; rintro e w' ⟨rfl, rfl⟩) | (go_at_call 159; refine (isResidual_is HR _).mono ?_; rintro e w' ⟨rfl, rfl⟩))
                refine bodyPost_ret (by simp [results, Tryz.results130, go_sem, *]; try rfl) rfl ?_
                exact ⟨hr.out, Below.refl _ _⟩
            · have hr := Lib.hid (ret3_is (rd_long (s := s) (a := a) (k := k) (q := 20) rfl (by rw [HT.out]; omega) (by rw [HT.out, hu, hx, hd, hres]; simp; omega)))
              rw [HT.out, hu, hx] at hr
              have HR := Lib.hid hres
              clear hres hu hx hd
              rcases ev.out with ev2 | ev2
              all_goals
                go_wp2_with (first | (go_at_call 92; refine (HSUB.out _).mono ?_; rintro e w' ⟨rfl, rfl⟩) | (go_at_call 158; refine (unfolded_z rfl HX (by omega) _).mono ?_; rintro e w' ⟨rfl, rfl⟩) | (go_at_call 159; refine (isResidual_is HR _).mono ?_; rintro e w' ⟨rfl, rfl⟩))
                refine bodyPost_ret (by simp [results, Tryz.results130, go_sem, *]; try rfl) rfl ?_
                exact ⟨hr.out, Below.refl _ _⟩
      · have hq20b : j < 20 := by omega
        have hji : (j : Int) < 20 := by omega
        have hjne : ((j : Int) == 20) = false := by rw [beq_eq_false_iff_ne]; omega
        obtain ⟨P, hP⟩ : ∃ P, j * 2 ^ k = P := ⟨_, rfl⟩
        obtain ⟨pk1, pk2⟩ := pow12n hk
        have hPb : P ≤ 81920 := by
          rw [← hP]
          exact Nat.le_trans (Nat.mul_le_mul (Nat.le_of_lt hq20b) pk2) (by omega)
        have hsh : IntKind.i64.wrap ((j : Int) * 2 ^ k) = (P : Int) := by rw [cast_mul, hP]; exact IntWalk.i64_in _ (by omega)
        rcases Nat.lt_or_ge s.size (p + 1 + k) with hcut | hlong
        · have hr := Lib.hid (ret3_is (rd_cut (s := s) (a := a) (k := k) (q := j) hq (by rw [HT.out]; exact hcut)))
          rcases Nat.lt_or_ge p s.size with hps | hps
          · have hb : ¬ s[p] = 49 := by
              rcases HO.out.stop with h | h | ⟨h, h2⟩
              · exact absurd h hq
              · have := HT.out; omega
              · intro e
                have h3 := HT.out
                subst h3
                exact h2 e
            have ev : ((s[p].toNat : Int) == 49) = false := beq_eq_false_iff_ne.2 fun e => hb (by apply UInt8.toNat_inj.1; show _ = 49; omega)
            clear hb hP
            go_wp2_with fail
            refine bodyPost_ret (by simp [results, Tryz.results130, go_sem, *]; try rfl) rfl ?_
            exact ⟨hr.out, Below.refl _ _⟩
          · obtain rfl : p = s.size := by omega
            clear hP
            go_wp2_with fail
            refine bodyPost_ret (by simp [results, Tryz.results130, go_sem, *]; try rfl) rfl ?_
            exact ⟨hr.out, Below.refl _ _⟩
        · have hps : p < s.size := by omega
          have hb : ¬ s[p] = 49 := by
            rcases HO.out.stop with h | h | ⟨h, h2⟩
            · exact absurd h hq
            · have := HT.out; omega
            · intro e
              have h3 := HT.out
              subst h3
              exact h2 e
          have ev : ((s[p].toNat : Int) == 49) = false := beq_eq_false_iff_ne.2 fun e => hb (by apply UInt8.toNat_inj.1; show _ = 49; omega)
          obtain ⟨v, hv⟩ : ∃ v, valAt s (p + 1) k = v := ⟨_, rfl⟩
          have hvb : v < 4096 := by
            have := valAt_bd s (p + 1) k HA.out
            omega
          obtain ⟨x, hx⟩ : ∃ x, unfI (P + v) = x := ⟨_, rfl⟩
          have hr := ret3_is (rd_short (s := s) (a := a) (k := k) (q := j) hq (by rw [HT.out]; omega))
          rw [HT.out, hv, hP, hx] at hr
          have hr := Lib.hid hr
          have HV := Lib.hid hv
          have HX := Lib.hid hx
          have HSUB := Lib.hid (readNumber_at s hs HA (p + 1) k v hlong (by omega) HV)
          clear hb hP hv hx
          go_wp2_with fail
          go_quiet ((first | (go_at_call 92; first | with_reducible exact quiet_mine (HSUB.out _) | with_reducible exact quiet_mine2 (HSUB.out _)) | (go_at_call 158; first | with_reducible exact quiet_mine (unfolded_z (Int.natCast_add P v).symm HX (by omega) _) | with_reducible exact quiet_mine2 (unfolded_z (Int.natCast_add P v).symm HX (by omega) _))))
          go_wp2_with fail
          refine bodyPost_ret (by simp [results, Tryz.results130, go_sem, *]; try rfl) rfl ?_
          exact ⟨hr.out, below_drewN (Below.refl _ _) _⟩
end Go.Proofs.YtmdmjnhebbhjbaaGreatDoor
