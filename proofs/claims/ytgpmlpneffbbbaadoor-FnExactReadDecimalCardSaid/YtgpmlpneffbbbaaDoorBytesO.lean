/-
  Bytes of one's own as elements; the decimal text that the reference makes.
-/
import Derived.Test.YtgpmlpneffbbbaaDoorOwnL
import Derived.Test.YtgpmlpneffbbbaaDoorDecPlain
namespace Go.Proofs.YtgpmlpneffbbbaaDoor
set_option linter.unusedSimpArgs false
set_option linter.unusedVariables false
set_option maxRecDepth 20000
open Go.RowKit
open Go.ChangeShapes Go.WideShapes Go.Deep Go.Joins

def bC (b : UInt8) : List Value := [.int .u8 (b.toNat : Int)]
theorem bC_len (b : UInt8) : (bC b).length = 1 := rfl
theorem rowOf_bC (l : List UInt8) : rowOf bC l = byteRow l := by
  induction l with
  | nil => rfl
  | cons b l ih => show bC b ++ rowOf bC l = _; rw [ih]; rfl
theorem elem_byte : Elem bC 5 1 1 where
  len _ := rfl
  one a u hu := by simp [bC] at hu; subst hu; rfl
  pos := by omega
  info := by
    obtain ⟨i, h1, h2, h3, h4⟩ := info_parts byte_info
    exact ⟨i, _, h1, h2, h3, h4, rfl⟩
theorem string_of_own {w : World} {base : Nat} {v : Value} {l : List UInt8} (h : Own bC 5 1 w base v l) :
    (convert 41 9 v).run Tryd.prog w = .ok (.string ⟨l.toArray⟩) w := by
  unfold Own at h
  rw [rowOf_bC] at h
  exact string_of_row h Tryd.underlying41 Tryd.underlying5 Tryd.underlying9

set_option maxHeartbeats 4000000 in
theorem l01Dec_zero (w : World) : Calls Tryd.prog 21 #[.int .i64 0] w fun e w' => e = .returned (.string ⟨(Lib.itoa 0).toArray⟩) ∧ Below w.heap.size w w' := by
  have e0 := Lib.hid itoa_zero
  go_enter Tryd.func21, Tryd.ntmps21
  go_wp2_with fail
  refine wp_loop_rounds 1 ?_
  rw [rounds_succ]
  go_wp2_with fail
  go_ret
  exact ⟨ret_str (by rw [e0.out]), by go_grown⟩

set_option maxHeartbeats 4000000 in
theorem l01Dec_pos (m0 : Nat) (h0 : 0 < m0) (hb : m0 ≤ 9223372036854775807) (w : World) : Calls Tryd.prog 21 #[.int .i64 ((m0 : Int))] w fun e w' => e = .returned (.string ⟨(Lib.itoa ((m0 : Int))).toArray⟩) ∧ Below w.heap.size w w' := by
  have e0 : Hid (Lib.itoa ((m0 : Int)) = digs m0) := itoa_nat h0
  go_enter Tryd.func21, Tryd.ntmps21
  go_wp2_with fail
  go_loopw [3, 4, 5] (fun v kk _ wr => ∃ (m g cap : Nat) (l : List UInt8), m ≤ m0 ∧ kk = .int .i64 ((m : Int)) ∧ v = .slice (some ⟨g, 0, none⟩) l.length cap ∧ Hid (digs m ++ l = digs m0) ∧ Hid (0 < m ∨ 0 < l.length) ∧ Hid (l.length ≤ 20) ∧ Own bC 5 1 wr w.heap.size (.slice (some ⟨g, 0, none⟩) l.length cap) l ∧ Below w.heap.size w wr) (fun _ kk _ _ => (intOf kk).natAbs)
  case atStart => exact ⟨m0, _, 0, [], Nat.le_refl _, rfl, rfl, by rw [Hid, List.append_nil], .inl h0, by simp [Hid], Own.empty (Bk.new w #[] 5) (Nat.le_refl _), by go_grown⟩
  case round =>
    obtain ⟨m, g, cap, l, hm, rfl, rfl, hdg, hne, hl20, hown, hB⟩ := hrel
    have hBs := hB.size
    have hgl : g < wr.heap.size := (hown.lt g rfl).2
    have HO := Lib.hid hown
    by_cases h1 : 0 < m
    · have hdl : (digs m).length = (digs (m / 10)).length + 1 := by rw [digs_pos h1]; simp
      have hl19 : l.length ≤ 19 := by
        have h2 := digs_len 19 m0 (by omega)
        have h3 := congrArg List.length hdg.out
        rw [List.length_append, hdl] at h3
        omega
      have hX := dig_val m
      have hnext : Hid (digs (m / 10) ++ (UInt8.ofNat (48 + m % 10) :: l) = digs m0) := by rw [Hid, ← hdg.out, digs_pos h1, List.append_assoc]; rfl
      have hq : ((m : Int)).tdiv 10 = ((m / 10 : Nat) : Int) := rfl
      have hr : ((m : Int)).tmod 10 = ((m % 10 : Nat) : Int) := rfl
      obtain ⟨rr, hrr⟩ : ∃ rr, m % 10 = rr := ⟨_, rfl⟩
      obtain ⟨qq, hqq⟩ : ∃ qq, m / 10 = qq := ⟨_, rfl⟩
      rw [hrr] at hr hX hnext
      rw [hqq] at hq hnext
      have hr10 : rr < 10 := by omega
      have hqm : qq < m := by omega
      have hqw : IntKind.i64.wrap ((qq : Int)) = (qq : Int) := IntWalk.i64_in _ (by omega)
      have hmz : ¬ ((m : Int)) = 0 := by omega
      have hmb : (((m : Int)) != 0) = true := by rw [bne_iff_ne]; omega
      have HH := Lib.hid hl19
      clear hrr hqq hl19 hown hdl hmz
      have hrw : IntKind.i64.wrap (rr : Int) = (rr : Int) := IntWalk.i64_in _ (by omega)
      have hw8 : IntKind.u8.wrap (48 + (rr : Int)) = 48 + (rr : Int) := by rw [IntKind.wrap_u8]; omega
      have hw64 : IntKind.i64.wrap (48 + (rr : Int)) = 48 + (rr : Int) := IntWalk.i64_in _ (by omega)
      have HE5 : Hid ((rowOf bC [UInt8.ofNat (48 + rr)]).toArray = #[Value.int .u8 (48 + (rr : Int))]) := by rw [Hid, ← hX]; rfl
      clear hX
      go_wp2_with ((at_builtin; refine list_pushes2 elem_byte (by rfl) (.tmp 21) (.tmp 22) 41 (by rfl) Tryd.underlying41 w.heap.size (.slice (some ⟨wr.heap.size, 0, none⟩) 1 1) [UInt8.ofNat (48 + rr)] l (by rfl) (Own.of_bk (l := [UInt8.ofNat (48 + rr)]) (by rw [HE5.out]; exact Bk.new wr _ _) bC_len (by simp [maxLen]) hBs) 1 l.length rfl rfl (by omega) g 0 cap (by rfl) (fun j u hu => by rw [Nat.zero_add]; exact (((HO.out.alloc _).at0 j u hu))) (by have := HH.out; unfold maxLen; omega) (by have := HH.out; omega) (by simp only [World.size_alloc]; omega) ?_; intro g5 cap5 w5 hown5 hgrow5 hat5 hlt5; have HO5 := Lib.hid hown5; have HG5 := Lib.hid hgrow5; clear hown5 hgrow5 hat5))
      go_roundw
      case rel =>
        have hG6 := ((hB.alloc hBs _).grown HG5.out (by simp only [World.size_alloc]; omega) (fun b hb => by
          have : wr.heap.size = b := by simpa [Value.ownBlock] using hb
          omega))
        refine ⟨qq, g5, cap5, UInt8.ofNat (48 + rr) :: l, by omega, rfl, by simp [Nat.add_comm], hnext, .inr (by simp), by have := HH.out; simp [Hid]; omega, ?_, hG6⟩
        have h6 := HO5.out
        simpa [Nat.add_comm] using h6
      case measure => (simp [intOf]; try omega)

    · obtain rfl : m = 0 := by omega
      have hconv := string_of_own HO.out
      have hl : 0 < l.length := by rcases hne.out with h | h <;> omega
      have hlz : decide (l.length = 0) = false := decide_eq_false (by omega)
      have hEL : Hid (l = digs m0) := by have := hdg.out; rw [digs_zero] at this; exact this
      have hsg : decide ((m0 : Int) < 0) = false := decide_eq_false (by omega)
      have hl20' : l.length ≤ 20 := hl20.out
      have hsz : (ByteArray.mk l.toArray).size = l.length := by show l.toArray.size = l.length; simp
      clear hgl hne hown
      go_wp2_with fail
      go_ret
      exact ⟨ret_str (by rw [e0.out, hEL.out]; all_goals (first | rfl | simp)), hB⟩

set_option maxHeartbeats 4000000 in
theorem l01Dec_neg (m0 : Nat) (h0 : 0 < m0) (hb : m0 ≤ 9223372036854775808) (w : World) : Calls Tryd.prog 21 #[.int .i64 (-(m0 : Int))] w fun e w' => e = .returned (.string ⟨(Lib.itoa (-(m0 : Int))).toArray⟩) ∧ Below w.heap.size w w' := by
  have e0 : Hid (Lib.itoa (-(m0 : Int)) = 45 :: digs m0) := itoa_neg h0
  go_enter Tryd.func21, Tryd.ntmps21
  go_wp2_with fail
  go_loopw [3, 4, 5] (fun v kk _ wr => ∃ (m g cap : Nat) (l : List UInt8), m ≤ m0 ∧ kk = .int .i64 (-(m : Int)) ∧ v = .slice (some ⟨g, 0, none⟩) l.length cap ∧ Hid (digs m ++ l = digs m0) ∧ Hid (0 < m ∨ 0 < l.length) ∧ Hid (l.length ≤ 20) ∧ Own bC 5 1 wr w.heap.size (.slice (some ⟨g, 0, none⟩) l.length cap) l ∧ Below w.heap.size w wr) (fun _ kk _ _ => (intOf kk).natAbs)
  case atStart => exact ⟨m0, _, 0, [], Nat.le_refl _, rfl, rfl, by rw [Hid, List.append_nil], .inl h0, by simp [Hid], Own.empty (Bk.new w #[] 5) (Nat.le_refl _), by go_grown⟩
  case round =>
    obtain ⟨m, g, cap, l, hm, rfl, rfl, hdg, hne, hl20, hown, hB⟩ := hrel
    have hBs := hB.size
    have hgl : g < wr.heap.size := (hown.lt g rfl).2
    have HO := Lib.hid hown
    by_cases h1 : 0 < m
    · have hdl : (digs m).length = (digs (m / 10)).length + 1 := by rw [digs_pos h1]; simp
      have hl19 : l.length ≤ 19 := by
        have h2 := digs_len 19 m0 (by omega)
        have h3 := congrArg List.length hdg.out
        rw [List.length_append, hdl] at h3
        omega
      have hX := dig_val m
      have hnext : Hid (digs (m / 10) ++ (UInt8.ofNat (48 + m % 10) :: l) = digs m0) := by rw [Hid, ← hdg.out, digs_pos h1, List.append_assoc]; rfl
      have hq : (-(m : Int)).tdiv 10 = -((m / 10 : Nat) : Int) := by first | (rw [Int.neg_tdiv]; done) | (rw [Int.neg_tdiv]; rfl)
      have hr : (-(m : Int)).tmod 10 = -((m % 10 : Nat) : Int) := by first | (rw [Int.neg_tmod]; done) | (rw [Int.neg_tmod]; rfl)
      obtain ⟨rr, hrr⟩ : ∃ rr, m % 10 = rr := ⟨_, rfl⟩
      obtain ⟨qq, hqq⟩ : ∃ qq, m / 10 = qq := ⟨_, rfl⟩
      rw [hrr] at hr hX hnext
      rw [hqq] at hq hnext
      have hr10 : rr < 10 := by omega
      have hqm : qq < m := by omega
      have hqw : IntKind.i64.wrap (-(qq : Int)) = -(qq : Int) := IntWalk.i64_in _ (by omega)
      have hmz : ¬ (-(m : Int)) = 0 := by omega
      have hmb : ((-(m : Int)) != 0) = true := by rw [bne_iff_ne]; omega
      have HH := Lib.hid hl19
      clear hrr hqq hl19 hown hdl hmz
      rcases Nat.eq_zero_or_pos rr with hr0 | hr0
      · subst hr0
        replace hr : (-(m : Int)).tmod 10 = 0 := hr
        have HE5 : Hid ((rowOf bC [UInt8.ofNat (48 + 0)]).toArray = #[Value.int .u8 48]) := rfl
        clear hX
        go_wp2_with ((at_builtin; refine list_pushes2 elem_byte (by rfl) (.tmp 21) (.tmp 22) 41 (by rfl) Tryd.underlying41 w.heap.size (.slice (some ⟨wr.heap.size, 0, none⟩) 1 1) [UInt8.ofNat (48 + 0)] l (by rfl) (Own.of_bk (l := [UInt8.ofNat (48 + 0)]) (by rw [HE5.out]; exact Bk.new wr _ _) bC_len (by simp [maxLen]) hBs) 1 l.length rfl rfl (by omega) g 0 cap (by rfl) (fun j u hu => by rw [Nat.zero_add]; exact (((HO.out.alloc _).at0 j u hu))) (by have := HH.out; unfold maxLen; omega) (by have := HH.out; omega) (by simp only [World.size_alloc]; omega) ?_; intro g5 cap5 w5 hown5 hgrow5 hat5 hlt5; have HO5 := Lib.hid hown5; have HG5 := Lib.hid hgrow5; clear hown5 hgrow5 hat5))
        go_roundw
        case rel =>
          have hG6 := ((hB.alloc hBs _).grown HG5.out (by simp only [World.size_alloc]; omega) (fun b hb => by
            have : wr.heap.size = b := by simpa [Value.ownBlock] using hb
            omega))
          refine ⟨qq, g5, cap5, UInt8.ofNat (48 + 0) :: l, by omega, rfl, by simp [Nat.add_comm], hnext, .inr (by simp), by have := HH.out; simp [Hid]; omega, ?_, hG6⟩
          have h6 := HO5.out
          simpa [Nat.add_comm] using h6
        case measure => (simp [intOf]; try omega)
      · have hrw : IntKind.i64.wrap (-(rr : Int)) = -(rr : Int) := IntWalk.i64_in _ (by omega)
        have hrw2 : IntKind.i64.wrap (rr : Int) = (rr : Int) := IntWalk.i64_in _ (by omega)
        have hw8 : IntKind.u8.wrap (48 + (rr : Int)) = 48 + (rr : Int) := by rw [IntKind.wrap_u8]; omega
        have hw64 : IntKind.i64.wrap (48 + (rr : Int)) = 48 + (rr : Int) := IntWalk.i64_in _ (by omega)
        have HE5 : Hid ((rowOf bC [UInt8.ofNat (48 + rr)]).toArray = #[Value.int .u8 (48 + (rr : Int))]) := by rw [Hid, ← hX]; rfl
        clear hX
        go_wp2_with ((at_builtin; refine list_pushes2 elem_byte (by rfl) (.tmp 21) (.tmp 22) 41 (by rfl) Tryd.underlying41 w.heap.size (.slice (some ⟨wr.heap.size, 0, none⟩) 1 1) [UInt8.ofNat (48 + rr)] l (by rfl) (Own.of_bk (l := [UInt8.ofNat (48 + rr)]) (by rw [HE5.out]; exact Bk.new wr _ _) bC_len (by simp [maxLen]) hBs) 1 l.length rfl rfl (by omega) g 0 cap (by rfl) (fun j u hu => by rw [Nat.zero_add]; exact (((HO.out.alloc _).at0 j u hu))) (by have := HH.out; unfold maxLen; omega) (by have := HH.out; omega) (by simp only [World.size_alloc]; omega) ?_; intro g5 cap5 w5 hown5 hgrow5 hat5 hlt5; have HO5 := Lib.hid hown5; have HG5 := Lib.hid hgrow5; clear hown5 hgrow5 hat5))
        go_roundw
        case rel =>
          have hG6 := ((hB.alloc hBs _).grown HG5.out (by simp only [World.size_alloc]; omega) (fun b hb => by
            have : wr.heap.size = b := by simpa [Value.ownBlock] using hb
            omega))
          refine ⟨qq, g5, cap5, UInt8.ofNat (48 + rr) :: l, by omega, rfl, by simp [Nat.add_comm], hnext, .inr (by simp), by have := HH.out; simp [Hid]; omega, ?_, hG6⟩
          have h6 := HO5.out
          simpa [Nat.add_comm] using h6
        case measure => (simp [intOf]; try omega)

    · obtain rfl : m = 0 := by omega
      have hconv := string_of_own HO.out
      have hl : 0 < l.length := by rcases hne.out with h | h <;> omega
      have hlz : decide (l.length = 0) = false := decide_eq_false (by omega)
      have hEL : Hid (l = digs m0) := by have := hdg.out; rw [digs_zero] at this; exact this
      have hsg : decide (-(m0 : Int) < 0) = true := decide_eq_true (by omega)
      have hl20' : l.length ≤ 20 := hl20.out
      have hsz : (ByteArray.mk l.toArray).size = l.length := by show l.toArray.size = l.length; simp
      clear hgl hne hown
      go_wp2_with fail
      go_ret
      exact ⟨ret_str (by rw [e0.out, hEL.out]; all_goals (first | rfl | simp)), hB⟩

theorem l01Dec_any (n : Int) (h0 : -9223372036854775808 ≤ n) (h1 : n ≤ 9223372036854775807) (w : World) : Calls Tryd.prog 21 #[.int .i64 n] w fun e w' => e = .returned (.string ⟨(Lib.itoa n).toArray⟩) ∧ Below w.heap.size w w' := by
  rcases Int.lt_trichotomy n 0 with h | h | h
  · obtain ⟨m, rfl⟩ : ∃ m : Nat, n = -(m : Int) := ⟨n.natAbs, by omega⟩
    exact l01Dec_neg m (by omega) (by omega) w
  · subst h; exact l01Dec_zero w
  · obtain ⟨m, rfl⟩ : ∃ m : Nat, n = (m : Int) := ⟨n.toNat, by omega⟩
    exact l01Dec_pos m (by omega) (by omega) w
end Go.Proofs.YtgpmlpneffbbbaaDoor
