/-
  The number whose Rice code begins at an index, as the reference reads it.
-/
import Derived.Test.YtmdmjnhebbhjbaaGreatDoorRead
namespace Go.Proofs.YtmdmjnhebbhjbaaGreatDoor
set_option linter.unusedSimpArgs false
set_option linter.unusedVariables false
set_option maxRecDepth 20000
open Go.RowKit
open Go.ChangeShapes Go.WideShapes Go.Deep Go.Joins

set_option maxHeartbeats 3000000 in
theorem l04Read_any (s : ByteArray) (hs : s.size ≤ 1048576) (hall : s.data.toList.all isBit = true) (a k q : Nat) (ha : a ≤ s.size) (hk : k ≤ 12) (ho : OnesAt s a q) (w : World) :
    Calls Tryz.prog 124 #[.string s, .int .i64 (a : Int), .int .i64 (k : Int)] w fun e w' => e = ret3 (riceRd s a k q) ∧ Below w.heap.size w w' := by
  have HA := Lib.hid hall
  have HO := Lib.hid ho
  have hq20 := ho.le
  have hfit := ho.fit
  obtain ⟨t, ht⟩ : ∃ t, a + q = t := ⟨_, rfl⟩
  have HT := Lib.hid ht
  have hti : (a : Int) + (q : Int) = (t : Int) := by omega
  rw [ht] at hfit
  have hw0 : IntKind.u64.wrap (k : Int) = k := IntWalk.u64_in _ (by omega)
  have hmin : min k 64 = k := by omega
  clear hall ho ht
  go_enter Tryz.func124, Tryz.ntmps124
  go_wp2_with fail
  go_loop [10] (fun i => ∃ j : Nat, j ≤ q ∧ i = .int .i64 (j : Int)) (fun i => q - (intOf i).toNat)
  case atStart => exact ⟨0, Nat.zero_le _, rfl⟩
  case round =>
    obtain ⟨j, hj, rfl⟩ := hrel
    by_cases hlt : j < q
    · obtain ⟨p, hp⟩ : ∃ p, a + j = p := ⟨_, rfl⟩
      have hpi : (a : Int) + (j : Int) = (p : Int) := by omega
      have hps : p < s.size := by have := HT.out; omega
      have hb : s[p] = 49 := by
        have h1 := HO.out.one j hlt (by rw [hp]; exact hps)
        subst hp
        exact h1
      have ev : (s[p].toNat : Int) = 49 := by rw [hb]; rfl
      have hj20 : (j : Int) < 20 := by omega
      clear hb hp hti
      go_wp2_with fail
      go_round
      case rel => exact ⟨j + 1, hlt, by go_num⟩
      case measure => (simp [intOf]; try omega)
    · obtain rfl : j = q := by omega
      by_cases hq : j = 20
      · obtain rfl : j = 20 := hq
        have hti2 : (a : Int) + 20 = (t : Int) := hti
        clear hti
        rcases Nat.lt_or_ge s.size (t + 32) with hcut | hlong
        · have hr := Lib.hid (ret3_is (rd_long_cut (s := s) (a := a) (k := k) (q := 20) rfl (by rw [HT.out]; exact hcut)))
          have hgt : (t : Int) + 32 > (s.size : Int) := by omega
          go_wp2_with fail
          refine bodyPost_ret (by simp [results, Tryz.results124, go_sem, *]; try rfl) rfl ?_
          exact ⟨hr.out, Below.refl _ _⟩
        · obtain ⟨u, hu⟩ : ∃ u, valAt s t 32 = u := ⟨_, rfl⟩
          have hub : u < 4294967296 := by rw [← hu]; exact valAt_bd s t 32 HA.out
          obtain ⟨x, hx⟩ : ∃ x, unfI u = x := ⟨_, rfl⟩
          obtain ⟨d, hd⟩ : ∃ d, u / 2 ^ k = d := ⟨_, rfl⟩
          have hdi : (u : Int) / 2 ^ k = (d : Int) := by rw [cast_div, hd]
          have HU := Lib.hid hu
          have HX := Lib.hid hx
          have HSUB := Lib.hid (l04Value_at s hs HA t (t + 32) 32 u rfl hlong (by omega) HU)
          cases hres : resI x
          · have hr := Lib.hid (ret3_is (rd_long_bad (s := s) (a := a) (k := k) (q := 20) rfl (by rw [HT.out]; omega) (by rw [HT.out, hu, hx]; exact .inr hres)))
            have HR := Lib.hid hres
            clear hres hu hx hd
            rcases Nat.lt_or_ge d 20 with hd20 | hd20
            all_goals
              go_wp2_with (first | (go_at_call 82; refine (HSUB.out _).mono ?_; rintro e w' ⟨rfl, rfl⟩) | (go_at_call 153; refine (l04Unfold_z rfl HX (by omega) _).mono ?_; rintro e w' ⟨rfl, rfl⟩) | (go_at_call 154; refine (l04Res_is HR _).mono ?_; rintro e w' ⟨rfl, rfl⟩))
              refine bodyPost_ret (by simp [results, Tryz.results124, go_sem, *]; try rfl) rfl ?_
              exact ⟨hr.out, Below.refl _ _⟩
          · rcases Nat.lt_or_ge d 20 with hd20 | hd20
            · have hr := Lib.hid (ret3_is (rd_long_bad (s := s) (a := a) (k := k) (q := 20) rfl (by rw [HT.out]; omega) (by rw [HT.out, hu, hd]; exact .inl hd20)))
              have HR := Lib.hid hres
              clear hres hu hx hd
              go_wp2_with (first | (go_at_call 82; refine (HSUB.out _).mono ?_; rintro e w' ⟨rfl, rfl⟩) | (go_at_call 153; refine (l04Unfold_z rfl HX (by omega) _).mono ?_; rintro e w' ⟨rfl, rfl⟩) | (go_at_call 154; refine (l04Res_is HR _).mono ?_; rintro e w' ⟨rfl, rfl⟩))
              refine bodyPost_ret (by simp [results, Tryz.results124, go_sem, *]; try rfl) rfl ?_
              exact ⟨hr.out, Below.refl _ _⟩
            · have hr := Lib.hid (ret3_is (rd_long (s := s) (a := a) (k := k) (q := 20) rfl (by rw [HT.out]; omega) (by rw [HT.out, hu, hx, hd, hres]; simp; omega)))
              rw [HT.out, hu, hx] at hr
              have HR := Lib.hid hres
              clear hres hu hx hd
              go_wp2_with (first | (go_at_call 82; refine (HSUB.out _).mono ?_; rintro e w' ⟨rfl, rfl⟩) | (go_at_call 153; refine (l04Unfold_z rfl HX (by omega) _).mono ?_; rintro e w' ⟨rfl, rfl⟩) | (go_at_call 154; refine (l04Res_is HR _).mono ?_; rintro e w' ⟨rfl, rfl⟩))
              refine bodyPost_ret (by simp [results, Tryz.results124, go_sem, *]; try rfl) rfl ?_
              exact ⟨hr.out, Below.refl _ _⟩
      · have hq20b : j < 20 := by omega
        have hji : (j : Int) < 20 := by omega
        have hjne : ((j : Int) == 20) = false := by rw [beq_eq_false_iff_ne]; omega
        obtain ⟨P, hP⟩ : ∃ P, j * 2 ^ k = P := ⟨_, rfl⟩
        obtain ⟨pk1, pk2⟩ := pow12n hk
        have hPb : P ≤ 81920 := by
          rw [← hP]
          exact Nat.le_trans (Nat.mul_le_mul (Nat.le_of_lt hq20b) pk2) (by omega)
        have hsh : IntKind.i64.wrap ((j : Int) * 2 ^ k) = (P : Int) := by rw [cast_mul, hP]; exact IntWalk.i64_in _ (by omega)
        have hb : Hid (∀ h : t < s.size, ((s[t].toNat : Int) == 49) = false) := by
          intro hps
          rw [beq_eq_false_iff_ne]
          intro e
          rcases HO.out.stop with h | h | ⟨h, h2⟩
          · exact absurd h hq
          · have := HT.out; omega
          · have h3 := HT.out
            subst h3
            exact h2 (by apply UInt8.toNat_inj.1; show _ = 49; omega)
        rcases Nat.lt_or_ge s.size (t + 1 + k) with hcut | hlong
        · have hr := Lib.hid (ret3_is (rd_cut (s := s) (a := a) (k := k) (q := j) hq (by rw [HT.out]; exact hcut)))
          have hgt : (t : Int) + 1 + (k : Int) > (s.size : Int) := by omega
          clear hP
          rcases Nat.lt_or_ge t s.size with hps | hps
          · have ev := hb.out hps
            go_wp2_with fail
            refine bodyPost_ret (by simp [results, Tryz.results124, go_sem, *]; try rfl) rfl ?_
            exact ⟨hr.out, Below.refl _ _⟩
          · go_wp2_with fail
            refine bodyPost_ret (by simp [results, Tryz.results124, go_sem, *]; try rfl) rfl ?_
            exact ⟨hr.out, Below.refl _ _⟩
        · have hps : t < s.size := by omega
          have ev := hb.out hps
          obtain ⟨v, hv⟩ : ∃ v, valAt s (t + 1) k = v := ⟨_, rfl⟩
          have hvb : v < 4096 := by
            have := valAt_bd s (t + 1) k HA.out
            omega
          obtain ⟨x, hx⟩ : ∃ x, unfI (P + v) = x := ⟨_, rfl⟩
          have hr := ret3_is (rd_short (s := s) (a := a) (k := k) (q := j) hq (by rw [HT.out]; omega))
          rw [HT.out, hv, hP, hx] at hr
          have hr := Lib.hid hr
          have HV := Lib.hid hv
          have HX := Lib.hid hx
          have HSUB := Lib.hid (l04Value_at s hs HA (t + 1) (t + 1 + k) k v rfl hlong (by omega) HV)
          clear hP hv hx
          go_wp2_with (first | (go_at_call 82; refine (HSUB.out _).mono ?_; rintro e w' ⟨rfl, rfl⟩) | (go_at_call 153; refine (l04Unfold_z (Int.natCast_add P v).symm HX (by omega) _).mono ?_; rintro e w' ⟨rfl, rfl⟩))
          refine bodyPost_ret (by simp [results, Tryz.results124, go_sem, *]; try rfl) rfl ?_
          exact ⟨hr.out, Below.refl _ _⟩
end Go.Proofs.YtmdmjnhebbhjbaaGreatDoor
