/-
  A value of a channel as a coordinate; how many milliseconds a unit has.
-/
import Derived.Test.YtigingjpdlfanaaColumn
import Derived.Test.YtigingjpdlfanaaInkOka
import Derived.Test.YtigingjpdlfanaaInkMka
namespace Go.Proofs.Ytigingjpdlfanaa
set_option linter.unusedSimpArgs false
set_option linter.unusedVariables false
set_option maxRecDepth 20000
open Go.RowKit
open Go.ChangeShapes Go.WideShapes Go.Deep Go.Joins

def nearN (n d : Nat) : Nat := (2 * n + d) / (2 * d)
theorem near_up {n d Q R : Nat} (hd : 0 < d) (hQ : n / d = Q) (hR : n % d = R) (h : d ≤ 2 * R) : nearN n d = Q + 1 := by
  have h1 := Nat.div_add_mod n d
  have h2 := Nat.mod_lt n hd
  rw [hQ, hR] at h1
  rw [hR] at h2
  have e : (Q + 1) * (2 * d) = 2 * (d * Q) + 2 * d := by rw [Nat.add_mul, Nat.mul_left_comm, Nat.mul_comm Q d]; omega
  have e2 : (Q + 1 + 1) * (2 * d) = 2 * (d * Q) + 4 * d := by rw [Nat.add_mul, e]; omega
  exact Nat.div_eq_of_lt_le (by rw [e]; omega) (by rw [e2]; omega)
theorem near_dn {n d Q R : Nat} (hd : 0 < d) (hQ : n / d = Q) (hR : n % d = R) (h : ¬ d ≤ 2 * R) : nearN n d = Q := by
  have h1 := Nat.div_add_mod n d
  rw [hQ, hR] at h1
  have e : Q * (2 * d) = 2 * (d * Q) := by rw [Nat.mul_left_comm, Nat.mul_comm Q d]
  have e2 : (Q + 1) * (2 * d) = 2 * (d * Q) + 2 * d := by rw [Nat.add_mul, e]; omega
  exact Nat.div_eq_of_lt_le (by rw [e]; omega) (by rw [e2]; omega)
theorem floorDiv_any (n d Q R : Nat) (w : World) (hd : 0 < d) (hn : n ≤ 100000000000000) (hd2 : d ≤ 100000000000000) (hQ : n / d = Q) (hR : n % d = R) :
    Calls Try.prog 135 #[.int .i64 (n : Int), .int .i64 (d : Int)] w fun e w' => e = .returned (.int .i64 (Q : Int)) ∧ w = w' := by
  have h1 : ((n : Int)).tdiv (d : Int) = (Q : Int) := by rw [← hQ]; rfl
  have h2 : ((n : Int)).tmod (d : Int) = (R : Int) := by rw [← hR]; rfl
  have hQb : Q ≤ n := by rw [← hQ]; exact Nat.div_le_self _ _
  have hRb : R < d := by rw [← hR]; exact Nat.mod_lt _ hd
  have hd0 : ¬ d = 0 := by omega
  clear hQ hR
  go_enter Try.func135, Try.ntmps135
  go_wp2_with fail
  go_ret
  exact ⟨rfl, rfl⟩
theorem l03Down_any (n d Q : Nat) (a b : Int) (w : World) (ha : a = (n : Int)) (hb : b = (d : Int)) (hd : 0 < d) (hn : n ≤ 100000000000000) (hd2 : d ≤ 100000000000000) (hQ : n / d = Q) :
    Calls Try.prog 134 #[.int .i64 a, .int .i64 b] w fun e w' => e = .returned (.int .i64 (Q : Int)) ∧ w = w' := by
  subst ha; subst hb
  obtain ⟨R, hR⟩ : ∃ R, n % d = R := ⟨_, rfl⟩
  have h1 : ((n : Int)).tdiv (d : Int) = (Q : Int) := by rw [← hQ]; rfl
  have h2 : ((n : Int)).tmod (d : Int) = (R : Int) := by rw [← hR]; rfl
  have hQb : Q ≤ n := by rw [← hQ]; exact Nat.div_le_self _ _
  have hRb : R < d := by rw [← hR]; exact Nat.mod_lt _ hd
  have hd0 : ¬ d = 0 := by omega
  clear hQ hR
  go_enter Try.func134, Try.ntmps134
  go_wp2_with fail
  go_ret
  exact ⟨rfl, rfl⟩
theorem nearestDiv_any (n d : Nat) (a b z : Int) (w : World) (ha : a = (n : Int)) (hb : b = (d : Int)) (hd : 0 < d) (hn : n ≤ 100000000000000) (hd2 : d ≤ 100000000000000) (hz : Hid ((nearN n d : Nat) = z)) :
    Calls Try.prog 122 #[.int .i64 a, .int .i64 b] w fun e w' => e = .returned (.int .i64 z) ∧ w = w' := by
  subst ha; subst hb
  obtain ⟨Q, hQ⟩ : ∃ Q, n / d = Q := ⟨_, rfl⟩
  obtain ⟨R, hR⟩ : ∃ R, n % d = R := ⟨_, rfl⟩
  obtain ⟨M, hM⟩ : ∃ M, Q * d = M := ⟨_, rfl⟩
  have hnm := Nat.div_add_mod n d
  rw [hQ, hR, Nat.mul_comm, hM] at hnm
  have hRb : R < d := by rw [← hR]; exact Nat.mod_lt _ hd
  have hQb : Q ≤ n := by rw [← hQ]; exact Nat.div_le_self _ _
  have hmul : (Q : Int) * (d : Int) = (M : Int) := by rw [← hM]; exact (Int.natCast_mul _ _).symm
  have hwm : IntKind.i64.wrap ((Q : Int) * (d : Int)) = (M : Int) := by rw [hmul]; exact IntWalk.i64_in _ (by omega)
  have HQ := Lib.hid hQ
  have HR := Lib.hid hR
  have HNM := Lib.hid hnm
  have hML : M ≤ n := by omega
  have HMU := Lib.hid hmul
  have hx : (n : Int) - (M : Int) = (R : Int) := by omega
  clear hQ hR hnm hM hmul
  cases hc : decide ((d : Int) - (R : Int) ≤ (R : Int))
  · have hlt : ¬ d ≤ 2 * R := by simp at hc; omega
    have hv := near_dn hd HQ.out HR.out hlt
    have HVV : Hid ((Q : Int) = z) := by rw [Hid, ← hz.out, hv]
    clear hlt hv
    go_enter Try.func122, Try.ntmps122
    go_wp2_with ((go_at_call 135; refine (floorDiv_any n d Q R _ hd hn hd2 HQ.out HR.out).mono ?_; rintro e w' ⟨rfl, rfl⟩))
    go_ret
    exact ⟨ret_int HVV.out, rfl⟩
  · have hlt : d ≤ 2 * R := by simp at hc; omega
    have hv := near_up hd HQ.out HR.out hlt
    have HVV : Hid ((Q : Int) + 1 = z) := by rw [Hid, ← hz.out, hv]; rfl
    clear hlt hv
    go_enter Try.func122, Try.ntmps122
    go_wp2_with ((go_at_call 135; refine (floorDiv_any n d Q R _ hd hn hd2 HQ.out HR.out).mono ?_; rintro e w' ⟨rfl, rfl⟩))
    go_ret
    exact ⟨ret_int HVV.out, rfl⟩
theorem l03Near_any (n d : Nat) (a b z : Int) (w : World) (ha : a = (n : Int)) (hb : b = (d : Int)) (hd : 0 < d) (hn : n ≤ 10000000000000) (hd2 : d ≤ 10000000000000) (hz : Hid ((nearN n d : Nat) = z)) :
    Calls Try.prog 121 #[.int .i64 a, .int .i64 b] w fun e w' => e = .returned (.int .i64 z) ∧ w = w' := by
  subst ha; subst hb
  go_enter Try.func121, Try.ntmps121
  go_wp2_with ((go_at_call 134; refine (l03Down_any (2 * n + d) (2 * d) (nearN n d) _ _ _ (by push_cast; rfl) (by push_cast; rfl) (by omega) (by omega) (by omega) rfl).mono ?_; rintro e w' ⟨rfl, rfl⟩))
  go_ret
  exact ⟨ret_int hz.out, rfl⟩
/-- a value of a channel as a coordinate -/
def coI (c : Ch) (v : Int) : Int := (nearN ((v - c.low) * 4095).toNat (c.high - c.low).toNat : Nat)
structure ChIn (c : Ch) (v : Int) : Prop where
  lo : -1000000000 ≤ c.low
  hi : c.high ≤ 1000000000
  lt : c.low < c.high
  vl : c.low ≤ v
  vh : v ≤ c.high
theorem coordOf_any (c : Ch) (v z : Int) (w : World) (h : ChIn c v) (hz : Hid (coI c v = z)) :
    Calls Try.prog 89 #[.int .i64 v, .agg #[.string c.name, .string c.unit, .int .i64 c.low, .int .i64 c.high]] w fun e w' => e = .returned (.int .i64 z) ∧ Below w.heap.size w w' := by
  obtain ⟨h1, h2, h3, h4, h5⟩ := h
  go_enter Try.func89, Try.ntmps89
  go_wp2_with ((go_at_call 122; refine (nearestDiv_any ((v - c.low) * 4095).toNat (c.high - c.low).toNat _ _ z _ (by omega) (by omega) (by omega) (by omega) (by omega) hz).mono ?_; rintro e w' ⟨rfl, rfl⟩))
  go_ret
  exact ⟨rfl, by go_grown⟩
theorem l03Scale_any (b o : Nat) (c : Ch) (v z : Int) (w : World) (h : ChIn c v) (d2 : w.cell? ⟨b, o + 2, none⟩ = some (.int .i64 c.low)) (d3 : w.cell? ⟨b, o + 3, none⟩ = some (.int .i64 c.high)) (hz : Hid (coI c v = z)) :
    Calls Try.prog 88 #[.pointer (some ⟨b, o, none⟩), .int .i64 v] w fun e w' => e = .returned (.int .i64 z) ∧ Below w.heap.size w w' := by
  obtain ⟨h1, h2, h3, h4, h5⟩ := h
  have hbl : b < w.heap.size := block_lt_of_cell d2
  have hw1 : IntKind.i64.wrap (v - c.low) = v - c.low := IntWalk.i64_in _ (by omega)
  have hw2 : IntKind.i64.wrap ((v - c.low) * 4095) = (v - c.low) * 4095 := IntWalk.i64_in _ (by omega)
  have hw3 : IntKind.i64.wrap (c.high - c.low) = c.high - c.low := IntWalk.i64_in _ (by omega)
  have HNR : Hid (∀ w : World, Calls Try.prog 121 #[.int .i64 ((v - c.low) * 4095), .int .i64 (c.high - c.low)] w fun e w' => e = .returned (.int .i64 z) ∧ w = w') := fun w => l03Near_any ((v - c.low) * 4095).toNat (c.high - c.low).toNat _ _ z w (by omega) (by omega) (by omega) (by omega) (by omega) hz
  go_enter Try.func88, Try.ntmps88
  go_wp2_with fail
  go_quiet ((first | (go_at_call 121; first | with_reducible exact quiet_mine (HNR.out _) | with_reducible exact quiet_mine2 (HNR.out _))))
  go_wp2_with fail
  go_ret
  exact ⟨rfl, below_drewN (Below.refl _ _) _⟩
def facI (u : ByteArray) : Int := if (u.toList == [109, 115]) = true then 1 else if (u.toList == [99, 115]) = true then 10 else if (u.toList == [115]) = true then 1000 else 0
theorem l03Factor_any (u : ByteArray) (k : Int) (w : World) (hk : Hid (facI u = k)) :
    Calls Try.prog 87 #[.string u] w fun e w' => e = .returned (.int .i64 k) ∧ w = w' := by
  cases h1 : (u.toList == [109, 115])
  · cases h2 : (u.toList == [99, 115])
    · cases h3 : (u.toList == [115])
      · go_enter Try.func87, Try.ntmps87
        go_wp2_with fail
        go_ret
        exact ⟨ret_int (by rw [← hk.out]; unfold facI; rw [h1, h2, h3]; rfl), rfl⟩
      · go_enter Try.func87, Try.ntmps87
        go_wp2_with fail
        go_ret
        exact ⟨ret_int (by rw [← hk.out]; unfold facI; rw [h1, h2, h3]; rfl), rfl⟩
    · go_enter Try.func87, Try.ntmps87
      go_wp2_with fail
      go_ret
      exact ⟨ret_int (by rw [← hk.out]; unfold facI; rw [h1, h2]; rfl), rfl⟩
  · go_enter Try.func87, Try.ntmps87
    go_wp2_with fail
    go_ret
    exact ⟨ret_int (by rw [← hk.out]; unfold facI; rw [h1]; rfl), rfl⟩
end Go.Proofs.Ytigingjpdlfanaa
