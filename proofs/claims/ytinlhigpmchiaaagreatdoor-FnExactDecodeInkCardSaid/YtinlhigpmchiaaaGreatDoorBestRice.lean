/-
  The best Rice parameter of a list: program and reference find the same, or refuse alike.
-/
import Derived.Test.YtinlhigpmchiaaaGreatDoorFromRes
import Derived.Test.YtinlhigpmchiaaaGreatDoorRiceS
namespace Go.Proofs.YtinlhigpmchiaaaGreatDoor
set_option linter.unusedSimpArgs false
set_option linter.unusedVariables false
set_option maxRecDepth 20000
open Go.RowKit
open Go.ChangeShapes Go.WideShapes Go.Deep Go.Joins

def riceN (n : Int) (k : Nat) : Nat := (riceL n k).length
theorem riceN_is {n : Int} (hn : -1000000000 ≤ n ∧ n ≤ 1000000000) {k : Nat} (hk : k ≤ 12) :
    ((riceN n k : Nat) : Int) = if foldI n / 2 ^ k < 20 then foldI n / 2 ^ k + 1 + k else 52 := by
  have hb := foldI_bd hn
  have p := pow12 hk
  have hq : 0 ≤ foldI n / 2 ^ k := Int.ediv_nonneg (by omega) (by omega)
  unfold riceN riceL riceU
  split
  · rw [List.length_append, List.length_replicate, List.length_cons, numBits_length]; omega
  · rw [List.length_append, List.length_replicate, numBits_length]; omega
theorem riceN_le {n : Int} (hn : -1000000000 ≤ n ∧ n ≤ 1000000000) {k : Nat} (hk : k ≤ 12) : riceN n k ≤ 52 := by
  have h := riceN_is hn hk
  have p := pow12 hk
  split at h <;> omega
/-- the bits of the first j -/
def bitsTo (l : List Int) (k : Nat) : Nat → Nat
  | 0 => 0
  | j + 1 => bitsTo l k j + riceN (l.getD j 0) k
theorem bitsTo_next {l : List Int} {k j : Nat} (hj : j < l.length) : bitsTo l k (j + 1) = bitsTo l k j + riceN l[j] k := by rw [bitsTo, getD_i hj]
theorem bitsTo_le {l : List Int} (hp : restP l) {k : Nat} (hk : k ≤ 12) : ∀ j, j ≤ l.length → bitsTo l k j ≤ 52 * j
  | 0, _ => Nat.le_refl _
  | j + 1, hj => by
    have ih := bitsTo_le hp hk j (by omega)
    have h := riceN_le (hp.at (by omega : j < l.length)) hk
    rw [bitsTo_next (by omega)]
    omega
/-- the best of the parameters 0 .. m, and its bits -/
def bestTo (l : List Int) : Nat → Nat × Nat
  | 0 => (0, bitsTo l 0 l.length)
  | m + 1 => if bitsTo l (m + 1) l.length < (bestTo l m).2 then (m + 1, bitsTo l (m + 1) l.length) else bestTo l m
theorem best_lt {l : List Int} {m : Nat} (h : bitsTo l (m + 1) l.length < (bestTo l m).2) : bestTo l (m + 1) = (m + 1, bitsTo l (m + 1) l.length) := by rw [bestTo, if_pos h]
theorem best_ge {l : List Int} {m : Nat} (h : ¬ bitsTo l (m + 1) l.length < (bestTo l m).2) : bestTo l (m + 1) = bestTo l m := by rw [bestTo, if_neg h]
def bestR (l : List Int) : Int × Int × Int := if allB l = true then ((((bestTo l 12).1 : Nat) : Int), (((bestTo l 12).2 : Nat) : Int), 0) else (0, 0, 2)
theorem bestR_no {l : List Int} (h : allB l = false) : bestR l = (0, 0, 2) := by rw [bestR, h]; rfl
theorem bestR_yes {l : List Int} (h : allB l = true) : bestR l = ((((bestTo l 12).1 : Nat) : Int), (((bestTo l 12).2 : Nat) : Int), 0) := by rw [bestR, h]; rfl

theorem riceLength_any (n : Int) (k : Nat) (w : World) (hn : -1000000000 ≤ n ∧ n ≤ 1000000000) (hk : k ≤ 12) :
    Calls Tryz.prog 62 #[.int .i64 n, .int .i64 (k : Int)] w fun e w' => e = .returned (.int .i64 ((riceN n k : Nat) : Int)) ∧ w = w' := by
  have hf := foldedOf_any n w hn
  have hbd := foldI_bd hn
  have hN := riceN_is hn hk
  obtain ⟨u, hu⟩ : ∃ u, foldI n = u := ⟨_, rfl⟩
  rw [hu] at hf hbd hN
  have HF := Lib.hid hf
  obtain ⟨p1, p2⟩ := pow12 hk
  have hq0 : 0 ≤ u / 2 ^ k := Int.ediv_nonneg (by omega) (by omega)
  have hqu : u / 2 ^ k ≤ u := Int.ediv_le_self _ (by omega)
  cases hq : decide (u / 2 ^ k < 20)
  · rw [if_neg (of_decide_eq_false hq)] at hN
    have HN := Lib.hid hN
    clear hf hu hn hN
    go_enter Tryz.func62, Tryz.ntmps62
    go_wp2_with fail
    refine HF.out.mono ?_
    rintro e w' ⟨rfl, rfl⟩
    go_wp2_with fail
    go_ret
    exact ⟨ret_int HN.out.symm, rfl⟩
  · rw [if_pos (of_decide_eq_true hq)] at hN
    have HN := Lib.hid hN
    clear hf hu hn hN
    go_enter Tryz.func62, Tryz.ntmps62
    go_wp2_with fail
    refine HF.out.mono ?_
    rintro e w' ⟨rfl, rfl⟩
    go_wp2_with fail
    go_ret
    exact ⟨ret_int HN.out.symm, rfl⟩

set_option maxHeartbeats 4000000 in
theorem l04Size_any (A : Option Addr) (n c k : Nat) (L : List Int) (w : World) (ha : Rd w A n 1 (rowOf iC L)) (la : L.length = n) (hp : restP L) (hn : n ≤ 60) (hk : k ≤ 12) :
    Calls Tryz.prog 70 #[.slice A n c, .int .i64 (k : Int)] w fun e w' => e = .returned (.int .i64 ((bitsTo L k n : Nat) : Int)) ∧ Below w.heap.size w w' := by
  have HA := Lib.hid ha
  have LA := Lib.hid la
  have HP := Lib.hid hp
  clear ha la hp
  go_enter Tryz.func70, Tryz.ntmps70
  go_wp2_with fail
  go_loopw [5, 6] (fun s i wr => ∃ j t : Nat, j ≤ n ∧ i = .int .i64 (j : Int) ∧ s = .int .i64 (t : Int) ∧ t ≤ 3120 ∧ Hid (bitsTo L k j = t) ∧ Below w.heap.size w wr) (fun _ i _ => n - (intOf i).toNat)
  case atStart => exact ⟨0, 0, Nat.zero_le _, rfl, rfl, by omega, rfl, Below.refl _ _⟩
  case round =>
    obtain ⟨j, t, hj, rfl, rfl, htb, ht, hB⟩ := hrel
    by_cases hlt : j < n
    · have ka : j < L.length := by have := LA.out; omega
      obtain ⟨b1, o1, rfl, l1, hc2⟩ := (HA.out.below hB).at iC_len LA.out ka
      have c1 : wr.cell? ⟨b1, o1 + j, none⟩ = some (.int .i64 L[j]) := by simpa using hc2 0 _ rfl
      clear hc2
      have hxb := HP.out.at ka
      obtain ⟨r, hr⟩ : ∃ r, riceN L[j] k = r := ⟨_, rfl⟩
      have hrb : r ≤ 52 := by rw [← hr]; exact riceN_le hxb hk
      have HN : Hid (bitsTo L k (j + 1) = t + r) := by rw [Hid, bitsTo_next ka, ht.out, hr]
      have htb2 : t + r ≤ 3120 := by
        have h := bitsTo_le HP.out hk (j + 1) (by omega)
        rw [HN.out] at h
        omega
      have hl2 : (riceL L[j] k).length = r := hr
      have hsz : (ByteArray.mk (riceL L[j] k).toArray).size = r := by show (riceL L[j] k).toArray.size = r; rw [List.size_toArray, hl2]
      clear hr hl2
      go_wp2_with fail
      refine (l04Rice_any L[j] k _ hxb hk).mono ?_
      rintro e w4 ⟨rfl, hb4⟩
      go_wp2_with fail
      go_roundw
      case rel => exact ⟨j + 1, t + r, by omega, by go_num, by go_num, htb2, HN, Below.next hB hb4⟩
      case measure => simp [intOf]; omega
    · obtain rfl : j = n := by omega
      go_wp2_with fail
      go_ret
      exact ⟨ret_int (by rw [ht.out]), hB⟩

set_option maxHeartbeats 8000000 in
theorem bestRice_any (A : Option Addr) (n c : Nat) (L : List Int) (w : World) (ha : Rd w A n 1 (rowOf iC L)) (la : L.length = n) (hp : restP L) (hn : n ≤ 60) :
    Calls Tryz.prog 44 #[.slice A n c] w fun e w' => e = .returned (.tuple #[.int .i64 (((bestTo L 12).1 : Nat) : Int), .int .i64 (((bestTo L 12).2 : Nat) : Int)]) ∧ w = w' := by
  have HA := Lib.hid ha
  have LA := Lib.hid la
  have HP := Lib.hid hp
  clear ha la hp
  go_enter Tryz.func44, Tryz.ntmps44
  go_wp2_with fail
  go_loop [4, 5, 6, 7, 16] (fun b s kk _ _ => ∃ (k : Nat) (x y : Int), k ≤ 13 ∧ kk = .int .i64 (k : Int) ∧ b = .int .i64 x ∧ s = .int .i64 y ∧ -1 ≤ y ∧ Hid ((k = 0 ∧ x = 0 ∧ y = -1) ∨ ∃ m, k = m + 1 ∧ x = ((bestTo L m).1 : Nat) ∧ y = ((bestTo L m).2 : Nat))) (fun _ _ kk _ _ => 13 - (intOf kk).toNat)
  case atStart => exact ⟨0, 0, -1, by omega, rfl, rfl, rfl, by omega, .inl ⟨rfl, rfl, rfl⟩⟩
  case round =>
    obtain ⟨k, x, y, hk, rfl, rfl, rfl, hy, hst⟩ := hrel
    by_cases hlt : k ≤ 12
    · have hkI : (k : Int) ≤ 12 := by omega
      go_wp2_with fail
      go_loop [7, 16] (fun s i => ∃ j t : Nat, j ≤ n ∧ i = .int .i64 (j : Int) ∧ s = .int .i64 (t : Int) ∧ t ≤ 3120 ∧ Hid (bitsTo L k j = t)) (fun _ i => n - (intOf i).toNat)
      case atStart => exact ⟨0, 0, Nat.zero_le _, rfl, rfl, by omega, rfl⟩
      case round =>
        obtain ⟨j, t, hj, rfl, rfl, htb, ht⟩ := hrel
        by_cases hlj : j < n
        · have ka : j < L.length := by have := LA.out; omega
          obtain ⟨b1, o1, rfl, l1, hc2⟩ := HA.out.at iC_len LA.out ka
          have c1 : w.cell? ⟨b1, o1 + j, none⟩ = some (.int .i64 L[j]) := by simpa using hc2 0 _ rfl
          clear hc2
          have hxb := HP.out.at ka
          have hrl := fun w => riceLength_any L[j] k w hxb hlt
          obtain ⟨r, hr⟩ : ∃ r, riceN L[j] k = r := ⟨_, rfl⟩
          have hrb : r ≤ 52 := by rw [← hr]; exact riceN_le hxb hlt
          have HN : Hid (bitsTo L k (j + 1) = t + r) := by rw [Hid, bitsTo_next ka, ht.out, hr]
          have htb2 : t + r ≤ 3120 := by
            have h := bitsTo_le HP.out hlt (j + 1) (by omega)
            rw [HN.out] at h
            omega
          rw [hr] at hrl
          have HRL := Lib.hid hrl
          clear hr hrl
          go_wp2_with (go_at_call 62; refine (HRL.out _).mono ?_; rintro e w' ⟨rfl, rfl⟩)
          go_round
          case rel => exact ⟨j + 1, t + r, by omega, by go_num, by go_num, htb2, HN⟩
          case measure => simp [intOf]; omega
        · obtain rfl : n = j := by omega
          have hT : bitsTo L k L.length = t := by rw [LA.out]; exact ht.out
          have HT := Lib.hid hT
          clear hT
          rcases hst.out with ⟨h1, h2, h3⟩ | ⟨m, h1, h2, h3⟩
          · subst h1; subst h2; subst h3
            have HN : Hid (bestTo L 0 = (0, t)) := by rw [Hid, bestTo, HT.out]
            go_wp2_with fail
            go_round
            case rel => exact ⟨1, 0, (t : Int), by omega, by go_num, by go_num, rfl, by omega, .inr ⟨0, rfl, by rw [HN.out]; rfl, by rw [HN.out]⟩⟩
            case measure => simp [intOf]
          · obtain ⟨bx, by', hb⟩ : ∃ a b, bestTo L m = (a, b) := ⟨_, _, rfl⟩
            rw [hb] at h2 h3
            simp only at h2 h3
            subst h2; subst h3; subst h1
            have HB := Lib.hid hb
            clear hb
            by_cases hlt2 : t < by'
            · have HN : Hid (bestTo L (m + 1) = (m + 1, t)) := by
                have := best_lt (l := L) (m := m) (by rw [HT.out, HB.out]; exact hlt2)
                rw [Hid, this, HT.out]
              have hI : (t : Int) < (by' : Int) := by omega
              have hI0 : ¬ (by' : Int) < 0 := by omega
              go_wp2_with fail
              go_round
              case rel => exact ⟨m + 1 + 1, ((m + 1 : Nat) : Int), (t : Int), by omega, by go_num, by go_num, rfl, by omega, .inr ⟨m + 1, rfl, by rw [HN.out], by rw [HN.out]⟩⟩
              case measure => simp [intOf]; omega
            · have HN : Hid (bestTo L (m + 1) = (bx, by')) := by
                have := best_ge (l := L) (m := m) (by rw [HT.out, HB.out]; exact hlt2)
                rw [Hid, this, HB.out]
              have hI : ¬ (t : Int) < (by' : Int) := by omega
              have hI0 : ¬ (by' : Int) < 0 := by omega
              go_wp2_with fail
              go_round
              case rel => exact ⟨m + 1 + 1, (bx : Int), (by' : Int), by omega, by go_num, rfl, rfl, by omega, .inr ⟨m + 1, rfl, by rw [HN.out], by rw [HN.out]⟩⟩
              case measure => simp [intOf]; omega
    · have hkI : ¬ (k : Int) ≤ 12 := by omega
      obtain rfl : k = 13 := by omega
      rcases hst.out with ⟨h1, h2, h3⟩ | ⟨m, h1, h2, h3⟩
      · omega
      · obtain rfl : m = 12 := by omega
        have H2 := Lib.hid h2
        have H3 := Lib.hid h3
        clear h1 h2 h3
        go_wp2_with fail
        go_ret2
        exact ⟨by rw [← H2.out, ← H3.out]; rfl, rfl⟩

set_option maxHeartbeats 8000000 in
theorem l04Best_any (A : Option Addr) (n c : Nat) (L : List Int) (w : World) (ha : Rd w A n 1 (rowOf iC L)) (la : L.length = n) (hp : restP L) (hn : n ≤ 60) :
    Calls Tryz.prog 55 #[.slice A n c] w fun e w' => e = .returned (.tuple #[.int .i64 (((bestTo L 12).1 : Nat) : Int), .int .i64 (((bestTo L 12).2 : Nat) : Int)]) ∧ Below w.heap.size w w' := by
  have HA := Lib.hid ha
  have LA := Lib.hid la
  have HP := Lib.hid hp
  have HS0 := l04Size_any A n c 0 L w ha la hp hn (by omega)
  have hb0 : bestTo L 0 = (0, bitsTo L 0 n) := by rw [bestTo, la]
  obtain ⟨t0, ht0⟩ : ∃ t, bitsTo L 0 n = t := ⟨_, rfl⟩
  rw [ht0] at HS0 hb0
  have HB0 := Lib.hid hb0
  clear ha la hp ht0 hb0
  go_enter Tryz.func55, Tryz.ntmps55
  go_wp2_with fail
  refine HS0.mono ?_
  rintro e w2 ⟨rfl, hb2⟩
  go_wp2_with fail
  go_loopw [4, 5, 6, 7] (fun b s kk _ wr => ∃ (m x y : Nat), m ≤ 12 ∧ kk = .int .i64 ((m : Int) + 1) ∧ b = .int .i64 (x : Int) ∧ s = .int .i64 (y : Int) ∧ Hid (bestTo L m = (x, y)) ∧ Below w.heap.size w wr) (fun _ _ kk _ _ => 14 - (intOf kk).toNat)
  case atStart => exact ⟨0, 0, t0, by omega, rfl, rfl, rfl, HB0.out, hb2⟩
  case round =>
    obtain ⟨m, x, y, hm, rfl, rfl, rfl, hst, hB⟩ := hrel
    by_cases hlt : m + 1 ≤ 12
    · have hkI : (m : Int) + 1 ≤ 12 := by omega
      have HS := l04Size_any A n c (m + 1) L wr (HA.out.below hB) LA.out HP.out hn hlt
      obtain ⟨t, ht⟩ : ∃ t, bitsTo L (m + 1) n = t := ⟨_, rfl⟩
      rw [ht] at HS
      have hT : bitsTo L (m + 1) L.length = t := by rw [LA.out]; exact ht
      have hmc : ((m + 1 : Nat) : Int) = (m : Int) + 1 := by omega
      rw [hmc] at HS
      have HSH := Lib.hid HS
      clear ht hmc HS
      by_cases hlt2 : t < y
      · have HN : Hid (bestTo L (m + 1) = (m + 1, t)) := by
          have := best_lt (l := L) (m := m) (by rw [hT, hst.out]; exact hlt2)
          rw [Hid, this, hT]
        clear hT
        have hI : (t : Int) < (y : Int) := by omega
        go_wp2_with fail
        refine HSH.out.mono ?_
        rintro e w4 ⟨rfl, hb4⟩
        go_wp2_with fail
        go_roundw
        case rel => exact ⟨m + 1, m + 1, t, by omega, by go_num, by go_num, rfl, HN, Below.next hB hb4⟩
        case measure => simp [intOf]; omega
      · have HN : Hid (bestTo L (m + 1) = (x, y)) := by
          have := best_ge (l := L) (m := m) (by rw [hT, hst.out]; exact hlt2)
          rw [Hid, this, hst.out]
        clear hT
        have hI : ¬ (t : Int) < (y : Int) := by omega
        go_wp2_with fail
        refine HSH.out.mono ?_
        rintro e w4 ⟨rfl, hb4⟩
        go_wp2_with fail
        go_roundw
        case rel => exact ⟨m + 1, x, y, by omega, by go_num, rfl, rfl, HN, Below.next hB hb4⟩
        case measure => simp [intOf]; omega
    · have hkI : ¬ (m : Int) + 1 ≤ 12 := by omega
      obtain rfl : m = 12 := by omega
      go_wp2_with fail
      go_ret2
      exact ⟨by rw [hst.out]; rfl, hB⟩

end Go.Proofs.YtinlhigpmchiaaaGreatDoor
