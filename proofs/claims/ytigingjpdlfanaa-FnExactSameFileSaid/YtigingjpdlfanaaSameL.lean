/-
  Lists of numbers, channels, notes, rows: what is equal.
-/
import Derived.Test.YtigingjpdlfanaaColumn
import Derived.Laws.StructEq
namespace Go.Proofs.Ytigingjpdlfanaa
set_option linter.unusedSimpArgs false
set_option linter.unusedVariables false
set_option maxRecDepth 20000
open Go.RowKit
open Go.ChangeShapes Go.WideShapes Go.Deep Go.Joins

def chEq (a b : Ch) : Bool := (a.name.toList == b.name.toList) && ((a.unit.toList == b.unit.toList) && ((a.low == b.low) && (a.high == b.high)))
def noEq (a b : No) : Bool := (a.fr == b.fr) && ((a.til == b.til) && (a.text.toList == b.text.toList))
theorem str_same {a b : ByteArray} (h : (a.toList == b.toList) = true) : a = b := by
  have h2 : a.toList = b.toList := by simpa using h
  rw [ByteArray.toList_eq, ByteArray.toList_eq] at h2
  have h3 : a.data = b.data := by rw [← Array.toArray_toList (xs := a.data), h2]
  cases a; cases b; simp_all
theorem chEq_yes {a b : Ch} (h : chEq a b = true) : a = b := by
  unfold chEq at h
  rw [Bool.and_eq_true, Bool.and_eq_true, Bool.and_eq_true] at h
  obtain ⟨h1, h2, h3, h4⟩ := h
  have e1 := str_same h1
  have e2 := str_same h2
  cases a; cases b
  simp at h3 h4
  simp_all
theorem chEq_no {a b : Ch} (h : chEq a b = false) : ¬ a = b := by
  rintro rfl
  unfold chEq at h
  simp at h
theorem noEq_yes {a b : No} (h : noEq a b = true) : a = b := by
  unfold noEq at h
  rw [Bool.and_eq_true, Bool.and_eq_true] at h
  obtain ⟨h1, h2, h3⟩ := h
  have e1 := str_same h3
  cases a; cases b
  simp at h1 h2
  simp_all
theorem noEq_no {a b : No} (h : noEq a b = false) : ¬ a = b := by
  rintro rfl
  unfold noEq at h
  simp at h
theorem eq_chv (a b : Ch) (w : World) : (Op.equalIn 10000 79 (.agg #[.string a.name, .string a.unit, .int .i64 a.low, .int .i64 a.high]) (.agg #[.string b.name, .string b.unit, .int .i64 b.low, .int .i64 b.high])).run Try.prog w = .ok (chEq a b) w := by
  have u := Try.underlying2
  have u2 := Try.underlying9
  have hS : Try.prog.underlying 79 = some (.struct (Try.prog.fieldsOf 79)) := by kernel_rfl
  have hp : Try.prog.stoodInHeld 79 = false := by kernel_rfl
  rw [show (10000 : Nat) = 9999 + 1 from rfl, run_equalIn_agg w 9999 _ _ _ hS hp]
  simp only [Program.fieldsOf, Try.underlying79]
  go_simp
  unfold chEq
  cases h1 : (a.name.toList == b.name.toList) <;> cases h2 : (a.unit.toList == b.unit.toList) <;> cases h3 : (a.low == b.low) <;> cases h4 : (a.high == b.high) <;> simp_all
theorem eq_nov (a b : No) (w : World) : (Op.equalIn 10000 70 (.agg #[.int .i64 a.fr, .int .i64 a.til, .string a.text]) (.agg #[.int .i64 b.fr, .int .i64 b.til, .string b.text])).run Try.prog w = .ok (noEq a b) w := by
  have u := Try.underlying2
  have u2 := Try.underlying9
  have hS : Try.prog.underlying 70 = some (.struct (Try.prog.fieldsOf 70)) := by kernel_rfl
  have hp : Try.prog.stoodInHeld 70 = false := by kernel_rfl
  rw [show (10000 : Nat) = 9999 + 1 from rfl, run_equalIn_agg w 9999 _ _ _ hS hp]
  simp only [Program.fieldsOf, Try.underlying70]
  go_simp
  unfold noEq
  cases h1 : (a.fr == b.fr) <;> cases h2 : (a.til == b.til) <;> cases h3 : (a.text.toList == b.text.toList) <;> simp_all
theorem guard_chv : Try.prog.eqGuardType Try.prog.depth 79 = false := by kernel_rfl
theorem guard_nov : Try.prog.eqGuardType Try.prog.depth 70 = false := by kernel_rfl
theorem tk_more {α : Type} {xs ys : List α} {k : Nat} (ha : k < xs.length) (hb : k < ys.length) (h : xs.take k = ys.take k) (he : xs[k] = ys[k]) : xs.take (k + 1) = ys.take (k + 1) := by
  rw [List.take_succ_eq_append_getElem ha, List.take_succ_eq_append_getElem hb, h, he]
theorem tk_part {α : Type} {xs ys : List α} {k : Nat} (ha : k < xs.length) (hb : k < ys.length) (he : ¬ xs[k] = ys[k]) : ¬ xs = ys := by
  rintro rfl
  exact he rfl
theorem tk_all {α : Type} {xs ys : List α} {k : Nat} (ha : xs.length ≤ k) (hb : ys.length ≤ k) (h : xs.take k = ys.take k) : xs = ys := by
  rwa [List.take_of_length_le ha, List.take_of_length_le hb] at h
/-- the plain contents of a list of rows -/
def rl (S : List (Sl Int)) : List (List Int) := S.map fun r => r.l
theorem rl_len (S : List (Sl Int)) : (rl S).length = S.length := List.length_map _
theorem rl_at {S : List (Sl Int)} {k : Nat} (h : k < (rl S).length) (h2 : k < S.length) : (rl S)[k] = S[k].l := by simp [rl]
theorem rl_pl (s : Sl (Sl Int)) : rowsK.pl s = rl s.l := by
  show s.l.map rowK.pl = _
  exact List.map_congr_left fun r _ => rowK_pl r
def rl2 (S : List (Sl (Sl Int))) : List (List (List Int)) := S.map fun s => rl s.l
theorem rl2_len (S : List (Sl (Sl Int))) : (rl2 S).length = S.length := List.length_map _
theorem rl2_at {S : List (Sl (Sl Int))} {k : Nat} (h : k < (rl2 S).length) (h2 : k < S.length) : (rl2 S)[k] = rl S[k].l := by simp [rl2]
theorem rl2_pl (s : Sl (Sl (Sl Int))) : stK.pl s = rl2 s.l := by
  show s.l.map rowsK.pl = _
  exact List.map_congr_left fun r _ => rl_pl r

set_option maxHeartbeats 4000000 in
theorem equalInts_any (A B : Option Addr) (n m c d : Nat) (xs ys : List Int) (v : Bool) (w : World) (hv : Is v (xs = ys)) (ha : Rd w A n 1 (rowOf iC xs)) (hb : Rd w B m 1 (rowOf iC ys)) (la : xs.length = n) (lb : ys.length = m) (hn : n ≤ 1048576) (hm : m ≤ 1048576) :
    Calls Try.prog 69 #[.slice A n c, .slice B m d] w fun e w' => e = .returned (.bool v) ∧ Below w.heap.size w w' := by
  have HA := Lib.hid ha
  have HD := Lib.hid hb
  have LA := Lib.hid la
  have LD := Lib.hid lb
  clear ha hb la lb
  by_cases hl : n = m
  · subst hl
    go_enter Try.func69, Try.ntmps69
    go_wp2_with fail
    go_loopw [5, 13] (fun _ i wr => ∃ k : Nat, k ≤ n ∧ i = .int .i64 k ∧ Hid (xs.take k = ys.take k) ∧ Below w.heap.size w wr) (fun _ i _ => n - (intOf i).toNat)
    case atStart => exact ⟨0, Nat.zero_le _, rfl, rfl, Below.refl _ _⟩
    case round =>
      obtain ⟨k, hk, rfl, hsame, hW⟩ := hrel
      by_cases hlt : k < n
      · have ka : k < xs.length := by have := LA.out; omega
        have kb : k < ys.length := by have := LD.out; omega
        obtain ⟨b3, o3, rfl, _, q3⟩ := (HA.out.below hW).at iC_len LA.out ka
        obtain ⟨b4, o4, rfl, _, q4⟩ := (HD.out.below hW).at iC_len LD.out kb
        have d0 : wr.cell? ⟨b3, o3 + k, none⟩ = some (.int .i64 xs[k]) := by simpa using q3 0 _ rfl
        have f0 : wr.cell? ⟨b4, o4 + k, none⟩ = some (.int .i64 ys[k]) := by simpa using q4 0 _ rfl
        have hk0 : (0 : Int) ≤ (k : Int) := by omega
        have hkn : (k : Int) < (n : Int) := by omega
        clear q3 q4
        cases e1 : (xs[k] != ys[k])
        · have heq2 : Hid (xs.take (k + 1) = ys.take (k + 1)) := tk_more ka kb hsame.out (by simpa using e1)
          go_wp2_with fail
          go_quiet (fail)
          go_wp2_with fail
          go_roundw
          case rel => exact ⟨k + 1, by omega, by go_num, heq2, below_drewN hW _⟩
          case measure => simp [intOf]; omega
        · have hne : Hid (¬ xs = ys) := tk_part ka kb (by simpa using e1)
          go_wp2_with fail
          go_quiet (fail)
          go_wp2_with fail
          go_ret
          exact ⟨ret_bool (no_of hv hne.out).symm, below_drewN hW _⟩
      · have hq : Hid (xs = ys) := tk_all (k := k) (by have := LA.out; omega) (by have := LD.out; omega) hsame.out
        go_wp2_with fail
        go_ret
        exact ⟨ret_bool (hv.2 hq.out).symm, hW⟩
  · have hne : Hid (¬ xs = ys) := by
      rintro rfl
      exact hl (LA.out.symm.trans LD.out)
    have hlb : decide (n = m) = false := decide_eq_false hl
    go_enter Try.func69, Try.ntmps69
    go_wp2_with fail
    go_ret
    exact ⟨ret_bool (no_of hv hne.out).symm, Below.refl _ _⟩

set_option maxHeartbeats 4000000 in
theorem l00Same_any (A B : Option Addr) (n m c d : Nat) (xs ys : List Int) (v : Bool) (w : World) (hv : Is v (xs = ys)) (ha : Rd w A n 1 (rowOf iC xs)) (hb : Rd w B m 1 (rowOf iC ys)) (la : xs.length = n) (lb : ys.length = m) (hn : n ≤ 1048576) (hm : m ≤ 1048576) :
    Calls Try.prog 131 #[.slice A n c, .slice B m d] w fun e w' => e = .returned (.bool v) ∧ Below w.heap.size w w' := by
  have HA := Lib.hid ha
  have HD := Lib.hid hb
  have LA := Lib.hid la
  have LD := Lib.hid lb
  clear ha hb la lb
  by_cases hl : n = m
  · subst hl
    go_enter Try.func131, Try.ntmps131
    go_wp2_with fail
    go_loopw [5] (fun i wr => ∃ k : Nat, k ≤ n ∧ i = .int .i64 k ∧ Hid (xs.take k = ys.take k) ∧ Below w.heap.size w wr) (fun i _ => n - (intOf i).toNat)
    case atStart => exact ⟨0, Nat.zero_le _, rfl, rfl, Below.refl _ _⟩
    case round =>
      obtain ⟨k, hk, rfl, hsame, hW⟩ := hrel
      by_cases hlt : k < n
      · have ka : k < xs.length := by have := LA.out; omega
        have kb : k < ys.length := by have := LD.out; omega
        obtain ⟨b3, o3, rfl, _, q3⟩ := (HA.out.below hW).at iC_len LA.out ka
        obtain ⟨b4, o4, rfl, _, q4⟩ := (HD.out.below hW).at iC_len LD.out kb
        have d0 : wr.cell? ⟨b3, o3 + k, none⟩ = some (.int .i64 xs[k]) := by simpa using q3 0 _ rfl
        have f0 : wr.cell? ⟨b4, o4 + k, none⟩ = some (.int .i64 ys[k]) := by simpa using q4 0 _ rfl
        have hk0 : (0 : Int) ≤ (k : Int) := by omega
        have hkn : (k : Int) < (n : Int) := by omega
        clear q3 q4
        cases e1 : (xs[k] != ys[k])
        · have heq2 : Hid (xs.take (k + 1) = ys.take (k + 1)) := tk_more ka kb hsame.out (by simpa using e1)
          go_wp2_with fail
          go_quiet (fail)
          go_wp2_with fail
          go_roundw
          case rel => exact ⟨k + 1, by omega, by go_num, heq2, below_drewN hW _⟩
          case measure => simp [intOf]; omega
        · have hne : Hid (¬ xs = ys) := tk_part ka kb (by simpa using e1)
          go_wp2_with fail
          go_quiet (fail)
          go_wp2_with fail
          go_ret
          exact ⟨ret_bool (no_of hv hne.out).symm, below_drewN hW _⟩
      · have hq : Hid (xs = ys) := tk_all (k := k) (by have := LA.out; omega) (by have := LD.out; omega) hsame.out
        go_wp2_with fail
        go_ret
        exact ⟨ret_bool (hv.2 hq.out).symm, hW⟩
  · have hne : Hid (¬ xs = ys) := by
      rintro rfl
      exact hl (LA.out.symm.trans LD.out)
    have hlb : decide (n = m) = false := decide_eq_false hl
    go_enter Try.func131, Try.ntmps131
    go_wp2_with fail
    go_ret
    exact ⟨ret_bool (no_of hv hne.out).symm, Below.refl _ _⟩

set_option maxHeartbeats 4000000 in
theorem equalChs_any (A B : Option Addr) (n m c d : Nat) (xs ys : List Ch) (v : Bool) (w : World) (hv : Is v (xs = ys)) (ha : Rd w A n 4 (rowOf chC xs)) (hb : Rd w B m 4 (rowOf chC ys)) (la : xs.length = n) (lb : ys.length = m) (hn : n ≤ 1048576) (hm : m ≤ 1048576) :
    Calls Try.prog 70 #[.slice A n c, .slice B m d] w fun e w' => e = .returned (.bool v) ∧ Below w.heap.size w w' := by
  have HA := Lib.hid ha
  have HD := Lib.hid hb
  have LA := Lib.hid la
  have LD := Lib.hid lb
  clear ha hb la lb
  have heq := eq_chv
  have hgd := guard_chv
  by_cases hl : n = m
  · subst hl
    go_enter Try.func70, Try.ntmps70
    go_wp2_with fail
    go_loopw [5, 13] (fun _ i wr => ∃ k : Nat, k ≤ n ∧ i = .int .i64 k ∧ Hid (xs.take k = ys.take k) ∧ Below w.heap.size w wr) (fun _ i _ => n - (intOf i).toNat)
    case atStart => exact ⟨0, Nat.zero_le _, rfl, rfl, Below.refl _ _⟩
    case round =>
      obtain ⟨k, hk, rfl, hsame, hW⟩ := hrel
      by_cases hlt : k < n
      · have ka : k < xs.length := by have := LA.out; omega
        have kb : k < ys.length := by have := LD.out; omega
        obtain ⟨b3, o3, rfl, _, q3⟩ := (HA.out.below hW).at chC_len LA.out ka
        obtain ⟨b4, o4, rfl, _, q4⟩ := (HD.out.below hW).at chC_len LD.out kb
        have d0 : wr.cell? ⟨b3, o3 + k * 4, none⟩ = some (.string xs[k].name) := q3 0 _ rfl
        have d1 : wr.cell? ⟨b3, o3 + k * 4 + 1, none⟩ = some (.string xs[k].unit) := q3 1 _ rfl
        have d2 : wr.cell? ⟨b3, o3 + k * 4 + 2, none⟩ = some (.int .i64 xs[k].low) := q3 2 _ rfl
        have d3 : wr.cell? ⟨b3, o3 + k * 4 + 3, none⟩ = some (.int .i64 xs[k].high) := q3 3 _ rfl
        have f0 : wr.cell? ⟨b4, o4 + k * 4, none⟩ = some (.string ys[k].name) := q4 0 _ rfl
        have f1 : wr.cell? ⟨b4, o4 + k * 4 + 1, none⟩ = some (.string ys[k].unit) := q4 1 _ rfl
        have f2 : wr.cell? ⟨b4, o4 + k * 4 + 2, none⟩ = some (.int .i64 ys[k].low) := q4 2 _ rfl
        have f3 : wr.cell? ⟨b4, o4 + k * 4 + 3, none⟩ = some (.int .i64 ys[k].high) := q4 3 _ rfl
        have hk0 : (0 : Int) ≤ (k : Int) := by omega
        have hkn : (k : Int) < (n : Int) := by omega
        clear q3 q4
        cases e1 : chEq xs[k] ys[k]
        · have hne : Hid (¬ xs = ys) := tk_part ka kb (chEq_no e1)
          go_wp2_with fail
          go_quiet (fail)
          go_wp2_with fail
          go_ret
          exact ⟨ret_bool (no_of hv hne.out).symm, below_drewN hW _⟩
        · have heq2 : Hid (xs.take (k + 1) = ys.take (k + 1)) := tk_more ka kb hsame.out (chEq_yes e1)
          go_wp2_with fail
          go_quiet (fail)
          go_wp2_with fail
          go_roundw
          case rel => exact ⟨k + 1, by omega, by go_num, heq2, below_drewN hW _⟩
          case measure => simp [intOf]; omega
      · have hq : Hid (xs = ys) := tk_all (k := k) (by have := LA.out; omega) (by have := LD.out; omega) hsame.out
        go_wp2_with fail
        go_ret
        exact ⟨ret_bool (hv.2 hq.out).symm, hW⟩
  · have hne : Hid (¬ xs = ys) := by
      rintro rfl
      exact hl (LA.out.symm.trans LD.out)
    have hlb : decide (n = m) = false := decide_eq_false hl
    go_enter Try.func70, Try.ntmps70
    go_wp2_with fail
    go_ret
    exact ⟨ret_bool (no_of hv hne.out).symm, Below.refl _ _⟩

set_option maxHeartbeats 4000000 in
theorem equalNos_any (A B : Option Addr) (n m c d : Nat) (xs ys : List No) (v : Bool) (w : World) (hv : Is v (xs = ys)) (ha : Rd w A n 3 (rowOf noC xs)) (hb : Rd w B m 3 (rowOf noC ys)) (la : xs.length = n) (lb : ys.length = m) (hn : n ≤ 1048576) (hm : m ≤ 1048576) :
    Calls Try.prog 71 #[.slice A n c, .slice B m d] w fun e w' => e = .returned (.bool v) ∧ Below w.heap.size w w' := by
  have HA := Lib.hid ha
  have HD := Lib.hid hb
  have LA := Lib.hid la
  have LD := Lib.hid lb
  clear ha hb la lb
  have heq := eq_nov
  have hgd := guard_nov
  by_cases hl : n = m
  · subst hl
    go_enter Try.func71, Try.ntmps71
    go_wp2_with fail
    go_loopw [5, 13] (fun _ i wr => ∃ k : Nat, k ≤ n ∧ i = .int .i64 k ∧ Hid (xs.take k = ys.take k) ∧ Below w.heap.size w wr) (fun _ i _ => n - (intOf i).toNat)
    case atStart => exact ⟨0, Nat.zero_le _, rfl, rfl, Below.refl _ _⟩
    case round =>
      obtain ⟨k, hk, rfl, hsame, hW⟩ := hrel
      by_cases hlt : k < n
      · have ka : k < xs.length := by have := LA.out; omega
        have kb : k < ys.length := by have := LD.out; omega
        obtain ⟨b3, o3, rfl, _, q3⟩ := (HA.out.below hW).at noC_len LA.out ka
        obtain ⟨b4, o4, rfl, _, q4⟩ := (HD.out.below hW).at noC_len LD.out kb
        have d0 : wr.cell? ⟨b3, o3 + k * 3, none⟩ = some (.int .i64 xs[k].fr) := q3 0 _ rfl
        have d1 : wr.cell? ⟨b3, o3 + k * 3 + 1, none⟩ = some (.int .i64 xs[k].til) := q3 1 _ rfl
        have d2 : wr.cell? ⟨b3, o3 + k * 3 + 2, none⟩ = some (.string xs[k].text) := q3 2 _ rfl
        have f0 : wr.cell? ⟨b4, o4 + k * 3, none⟩ = some (.int .i64 ys[k].fr) := q4 0 _ rfl
        have f1 : wr.cell? ⟨b4, o4 + k * 3 + 1, none⟩ = some (.int .i64 ys[k].til) := q4 1 _ rfl
        have f2 : wr.cell? ⟨b4, o4 + k * 3 + 2, none⟩ = some (.string ys[k].text) := q4 2 _ rfl
        have hk0 : (0 : Int) ≤ (k : Int) := by omega
        have hkn : (k : Int) < (n : Int) := by omega
        clear q3 q4
        cases e1 : noEq xs[k] ys[k]
        · have hne : Hid (¬ xs = ys) := tk_part ka kb (noEq_no e1)
          go_wp2_with fail
          go_quiet (fail)
          go_wp2_with fail
          go_ret
          exact ⟨ret_bool (no_of hv hne.out).symm, below_drewN hW _⟩
        · have heq2 : Hid (xs.take (k + 1) = ys.take (k + 1)) := tk_more ka kb hsame.out (noEq_yes e1)
          go_wp2_with fail
          go_quiet (fail)
          go_wp2_with fail
          go_roundw
          case rel => exact ⟨k + 1, by omega, by go_num, heq2, below_drewN hW _⟩
          case measure => simp [intOf]; omega
      · have hq : Hid (xs = ys) := tk_all (k := k) (by have := LA.out; omega) (by have := LD.out; omega) hsame.out
        go_wp2_with fail
        go_ret
        exact ⟨ret_bool (hv.2 hq.out).symm, hW⟩
  · have hne : Hid (¬ xs = ys) := by
      rintro rfl
      exact hl (LA.out.symm.trans LD.out)
    have hlb : decide (n = m) = false := decide_eq_false hl
    go_enter Try.func71, Try.ntmps71
    go_wp2_with fail
    go_ret
    exact ⟨ret_bool (no_of hv hne.out).symm, Below.refl _ _⟩

set_option maxHeartbeats 8000000 in
theorem equalRows_any (A B : Option Addr) (n m c d : Nat) (S T : List (Sl Int)) (v : Bool) (w : World) (hv : Is v (rl S = rl T)) (ha : rowsK.rd w ⟨A, c, S⟩) (hb : rowsK.rd w ⟨B, d, T⟩) (la : S.length = n) (lb : T.length = m) (hs : ∀ r ∈ S, r.l.length ≤ 1048576) (ht : ∀ r ∈ T, r.l.length ≤ 1048576) (hn : n ≤ 1048576) (hm : m ≤ 1048576) :
    Calls Try.prog 68 #[.slice A n c, .slice B m d, .func (.func 69) #[] #[]] w fun e w' => e = .returned (.bool v) ∧ Below w.heap.size w w' := by
  have h1 : Rd w A S.length 1 (rowOf hdC S) := ha.1
  have h2 : ∀ a ∈ S, rowK.rd w a := ha.2
  have h3 : Rd w B T.length 1 (rowOf hdC T) := hb.1
  have h4 : ∀ a ∈ T, rowK.rd w a := hb.2
  rw [la] at h1
  rw [lb] at h3
  have HA := Lib.hid h1
  have HX := Lib.hid h2
  have HD := Lib.hid h3
  have HY := Lib.hid h4
  have LA := Lib.hid la
  have LD := Lib.hid lb
  clear ha hb la lb h1 h2 h3 h4
  by_cases hl : n = m
  · subst hl
    go_enter Try.func68, Try.ntmps68
    go_wp2_with fail
    go_loopw [17] (fun i wr => ∃ k : Nat, k ≤ n ∧ i = .int .i64 (k : Int) ∧ Hid ((rl S).take k = (rl T).take k) ∧ Below w.heap.size w wr) (fun i _ => n - (intOf i).toNat)
    case atStart => exact ⟨0, Nat.zero_le _, rfl, rfl, Below.refl _ _⟩
    case round =>
      obtain ⟨k, hk, rfl, hsame, hW⟩ := hrel
      have hWs := hW.size
      by_cases hlt : k < n
      · have ka : k < S.length := by have := LA.out; omega
        have kb : k < T.length := by have := LD.out; omega
        have ka2 : k < (rl S).length := by rw [rl_len]; exact ka
        have kb2 : k < (rl T).length := by rw [rl_len]; exact kb
        obtain ⟨b3, o3, rfl, l3, q3⟩ := (HA.out.below hW).at hdC_len LA.out ka
        obtain ⟨b4, o4, rfl, l4, q4⟩ := (HD.out.below hW).at hdC_len LD.out kb
        have c1 : wr.cell? ⟨b3, o3 + k, none⟩ = some (.slice S[k].A S[k].l.length S[k].c) := by simpa [Sl.val] using q3 0 _ rfl
        have c2 : wr.cell? ⟨b4, o4 + k, none⟩ = some (.slice T[k].A T[k].l.length T[k].c) := by simpa [Sl.val] using q4 0 _ rfl
        have hsa := hs _ (List.getElem_mem ka)
        have hsb := ht _ (List.getElem_mem kb)
        have hk0 : (0 : Int) ≤ (k : Int) := by omega
        have hkn : (k : Int) < (n : Int) := by omega
        have P1 : Hid (Rd wr S[k].A S[k].l.length 1 (rowOf iC S[k].l)) := (rowK_ok.below (HX.out _ (List.getElem_mem ka)) hW).1
        have P2 : Hid (Rd wr T[k].A T[k].l.length 1 (rowOf iC T[k].l)) := (rowK_ok.below (HY.out _ (List.getElem_mem kb)) hW).1
        clear q3 q4
        obtain ⟨u, hu⟩ := bool_of (S[k].l = T[k].l)
        have HU : Is u (S[k].l = T[k].l) := hu
        clear hu
        cases u
        · have hne : Hid (¬ rl S = rl T) := tk_part ka2 kb2 (by rw [rl_at ka2 ka, rl_at kb2 kb]; exact fun e => absurd (HU.2 e) (by simp))
          clear ka2 kb2
          go_wp2_with fail
          refine (equalInts_any S[k].A T[k].A S[k].l.length T[k].l.length S[k].c T[k].c S[k].l T[k].l _ _ HU P1.out P2.out rfl rfl hsa hsb).mono ?_
          rintro e w2 ⟨rfl, hb2⟩
          have hW2 : Below w.heap.size w w2 := Below.next hW hb2
          clear hb2
          go_wp2_with fail
          go_ret
          exact ⟨ret_bool (no_of hv hne.out).symm, hW2⟩
        · have heq2 : Hid ((rl S).take (k + 1) = (rl T).take (k + 1)) := tk_more ka2 kb2 hsame.out (by rw [rl_at ka2 ka, rl_at kb2 kb]; exact HU.1 rfl)
          clear ka2 kb2
          go_wp2_with fail
          refine (equalInts_any S[k].A T[k].A S[k].l.length T[k].l.length S[k].c T[k].c S[k].l T[k].l _ _ HU P1.out P2.out rfl rfl hsa hsb).mono ?_
          rintro e w2 ⟨rfl, hb2⟩
          have hW2 : Below w.heap.size w w2 := Below.next hW hb2
          clear hb2
          go_wp2_with fail
          go_roundw
          case rel => exact ⟨k + 1, by omega, by go_num, heq2, hW2⟩
          case measure => simp [intOf]; omega
      · have hq : Hid (rl S = rl T) := tk_all (k := k) (by rw [rl_len]; have := LA.out; omega) (by rw [rl_len]; have := LD.out; omega) hsame.out
        go_wp2_with fail
        go_ret
        exact ⟨ret_bool (hv.2 hq.out).symm, hW⟩
  · have hne : Hid (¬ rl S = rl T) := fun e => hl (by rw [← LA.out, ← LD.out, ← rl_len S, ← rl_len T, e])
    have hlb : decide (n = m) = false := decide_eq_false hl
    go_enter Try.func68, Try.ntmps68
    go_wp2_with fail
    go_ret
    exact ⟨ret_bool (no_of hv hne.out).symm, Below.refl _ _⟩

set_option maxHeartbeats 8000000 in
theorem l03SameRows_any (A B : Option Addr) (n m c d : Nat) (S T : List (Sl Int)) (v : Bool) (w : World) (hv : Is v (rl S = rl T)) (ha : rowsK.rd w ⟨A, c, S⟩) (hb : rowsK.rd w ⟨B, d, T⟩) (la : S.length = n) (lb : T.length = m) (hs : ∀ r ∈ S, r.l.length ≤ 1048576) (ht : ∀ r ∈ T, r.l.length ≤ 1048576) (hn : n ≤ 1048576) (hm : m ≤ 1048576) :
    Calls Try.prog 107 #[.slice A n c, .slice B m d] w fun e w' => e = .returned (.bool v) ∧ Below w.heap.size w w' := by
  have h1 : Rd w A S.length 1 (rowOf hdC S) := ha.1
  have h2 : ∀ a ∈ S, rowK.rd w a := ha.2
  have h3 : Rd w B T.length 1 (rowOf hdC T) := hb.1
  have h4 : ∀ a ∈ T, rowK.rd w a := hb.2
  rw [la] at h1
  rw [lb] at h3
  have HA := Lib.hid h1
  have HX := Lib.hid h2
  have HD := Lib.hid h3
  have HY := Lib.hid h4
  have LA := Lib.hid la
  have LD := Lib.hid lb
  clear ha hb la lb h1 h2 h3 h4
  by_cases hl : n = m
  · subst hl
    go_enter Try.func107, Try.ntmps107
    go_wp2_with fail
    go_loopw [5] (fun i wr => ∃ k : Nat, k ≤ n ∧ i = .int .i64 (k : Int) ∧ Hid ((rl S).take k = (rl T).take k) ∧ Below w.heap.size w wr) (fun i _ => n - (intOf i).toNat)
    case atStart => exact ⟨0, Nat.zero_le _, rfl, rfl, Below.refl _ _⟩
    case round =>
      obtain ⟨k, hk, rfl, hsame, hW⟩ := hrel
      have hWs := hW.size
      by_cases hlt : k < n
      · have ka : k < S.length := by have := LA.out; omega
        have kb : k < T.length := by have := LD.out; omega
        have ka2 : k < (rl S).length := by rw [rl_len]; exact ka
        have kb2 : k < (rl T).length := by rw [rl_len]; exact kb
        obtain ⟨b3, o3, rfl, l3, q3⟩ := (HA.out.below hW).at hdC_len LA.out ka
        obtain ⟨b4, o4, rfl, l4, q4⟩ := (HD.out.below hW).at hdC_len LD.out kb
        have c1 : wr.cell? ⟨b3, o3 + k, none⟩ = some (.slice S[k].A S[k].l.length S[k].c) := by simpa [Sl.val] using q3 0 _ rfl
        have c2 : wr.cell? ⟨b4, o4 + k, none⟩ = some (.slice T[k].A T[k].l.length T[k].c) := by simpa [Sl.val] using q4 0 _ rfl
        have hsa := hs _ (List.getElem_mem ka)
        have hsb := ht _ (List.getElem_mem kb)
        have hk0 : (0 : Int) ≤ (k : Int) := by omega
        have hkn : (k : Int) < (n : Int) := by omega
        have P1 : Hid (Rd wr S[k].A S[k].l.length 1 (rowOf iC S[k].l)) := (rowK_ok.below (HX.out _ (List.getElem_mem ka)) hW).1
        have P2 : Hid (Rd wr T[k].A T[k].l.length 1 (rowOf iC T[k].l)) := (rowK_ok.below (HY.out _ (List.getElem_mem kb)) hW).1
        clear q3 q4
        obtain ⟨u, hu⟩ := bool_of (S[k].l = T[k].l)
        have HU : Is u (S[k].l = T[k].l) := hu
        clear hu
        cases u
        · have hne : Hid (¬ rl S = rl T) := tk_part ka2 kb2 (by rw [rl_at ka2 ka, rl_at kb2 kb]; exact fun e => absurd (HU.2 e) (by simp))
          clear ka2 kb2
          go_wp2_with fail
          refine wp_region_held_drew (S := (fun w' => (∀ kb ko, kb < wr.heap.size → w'.cell? ⟨kb, ko, none⟩ = wr.cell? ⟨kb, ko, none⟩) ∧ wr.heap.size ≤ w'.heap.size ∧ Below wr.heap.size wr w')) (by kernel_rfl) ?_ (fun hHeld => ?_)
          · (try dsimp only); (first | exact SB.mk hkB | exact SB.mk ((Below.refl _ _).drew) | (go_split_ands; refine SB.mk (Below.drew ?_); assumption) | (refine SB.mk ?_; go_grown; done) | (go_split_ands; refine SB.mk ?_; go_grown; done))
          first | (refine take_on (i := 0) (v := ?_) rfl (by kernel_rfl) (by kernel_rfl) (by kernel_rfl) (fun _ _ _ h => h) rfl ?_ (by assumption) ?_; rotate_left; · (intro w' hSw; (try dsimp only at hSw); go_simp; (try with_reducible rfl))) | (refine take_off (i := 0) rfl (by kernel_rfl) (by kernel_rfl) (by kernel_rfl) (fun _ _ _ h => h) rfl (by assumption) ?_)
          (try simp only [Act.put, List.setIfInBounds_toArray, List.set_cons_zero, List.set_cons_succ])
          first | (refine take_on (i := 1) (v := ?_) rfl (by kernel_rfl) (by kernel_rfl) (by kernel_rfl) (fun _ _ _ h => h) rfl ?_ (by assumption) ?_; rotate_left; · (intro w' hSw; (try dsimp only at hSw); go_simp; (try with_reducible rfl))) | (refine take_off (i := 1) rfl (by kernel_rfl) (by kernel_rfl) (by kernel_rfl) (fun _ _ _ h => h) rfl (by assumption) ?_)
          (try simp only [Act.put, List.setIfInBounds_toArray, List.set_cons_zero, List.set_cons_succ])
          first | (refine take_on (i := 2) (v := ?_) rfl (by kernel_rfl) (by kernel_rfl) (by kernel_rfl) (fun _ _ _ h => h) rfl ?_ (by assumption) ?_; rotate_left; · (intro w' hSw; (try dsimp only at hSw); go_simp; (try with_reducible rfl))) | (refine take_off (i := 2) rfl (by kernel_rfl) (by kernel_rfl) (by kernel_rfl) (fun _ _ _ h => h) rfl (by assumption) ?_)
          (try simp only [Act.put, List.setIfInBounds_toArray, List.set_cons_zero, List.set_cons_succ])
          first | (refine take_on (i := 3) (v := ?_) rfl (by kernel_rfl) (by kernel_rfl) (by kernel_rfl) (fun _ _ _ h => h) rfl ?_ (by assumption) ?_; rotate_left; · (intro w' hSw; (try dsimp only at hSw); go_simp; (try with_reducible rfl))) | (refine take_off (i := 3) rfl (by kernel_rfl) (by kernel_rfl) (by kernel_rfl) (fun _ _ _ h => h) rfl (by assumption) ?_)
          (try simp only [Act.put, List.setIfInBounds_toArray, List.set_cons_zero, List.set_cons_succ])
          first | (refine take_on (i := 4) (v := ?_) rfl (by kernel_rfl) (by kernel_rfl) (by kernel_rfl) (fun _ _ _ h => h) rfl ?_ (by assumption) ?_; rotate_left; · (intro w' hSw; (try dsimp only at hSw); go_simp; (try with_reducible rfl))) | (refine take_off (i := 4) rfl (by kernel_rfl) (by kernel_rfl) (by kernel_rfl) (fun _ _ _ h => h) rfl (by assumption) ?_)
          (try simp only [Act.put, List.setIfInBounds_toArray, List.set_cons_zero, List.set_cons_succ])
          first | (refine take_on (i := 5) (v := ?_) rfl (by kernel_rfl) (by kernel_rfl) (by kernel_rfl) (fun _ _ _ h => h) rfl ?_ (by assumption) ?_; rotate_left; · (intro w' hSw; (try dsimp only at hSw); go_simp; (try with_reducible rfl))) | (refine take_off (i := 5) rfl (by kernel_rfl) (by kernel_rfl) (by kernel_rfl) (fun _ _ _ h => h) rfl (by assumption) ?_)
          (try simp only [Act.put, List.setIfInBounds_toArray, List.set_cons_zero, List.set_cons_succ])
          first | (refine take_on (i := 6) (v := ?_) rfl (by kernel_rfl) (by kernel_rfl) (by kernel_rfl) (fun _ _ _ h => h) rfl ?_ (by assumption) ?_; rotate_left; · (intro w' hSw; (try dsimp only at hSw); go_simp; (try with_reducible rfl))) | (refine take_off (i := 6) rfl (by kernel_rfl) (by kernel_rfl) (by kernel_rfl) (fun _ _ _ h => h) rfl (by assumption) ?_)
          (try simp only [Act.put, List.setIfInBounds_toArray, List.set_cons_zero, List.set_cons_succ])
          first | (refine take_on (i := 7) (v := ?_) rfl (by kernel_rfl) (by kernel_rfl) (by kernel_rfl) (fun _ _ _ h => h) rfl ?_ (by assumption) ?_; rotate_left; · (intro w' hSw; (try dsimp only at hSw); go_simp; (try with_reducible rfl))) | (refine take_off (i := 7) rfl (by kernel_rfl) (by kernel_rfl) (by kernel_rfl) (fun _ _ _ h => h) rfl (by assumption) ?_)
          (try simp only [Act.put, List.setIfInBounds_toArray, List.set_cons_zero, List.set_cons_succ])
          refine wpAnyH_ready (rs := [8]) (by kernel_rfl) (by simp) ?_
          refine AllReadyH.cons rfl (fun K hK => ?_) AllReadyH.nil
          rw [if_pos (by rfl)]
          go_simp
          first | (go_at_call 131; (with_reducible refine (l00Same_any S[k].A T[k].A S[k].l.length T[k].l.length S[k].c T[k].c S[k].l T[k].l _ _ HU (by first | exact P1.out | exact P1.out.drew) (by first | exact P2.out | exact P2.out.drew) rfl rfl hsa hsb).mono ?_); rintro e w' ⟨rfl, hb⟩; obtain ⟨_, hks, hkB⟩ := SB.next (by assumption) hb; obtain ⟨hkc, hkf⟩ := bcell hb; have hkz := hb.size; (try simp only [World.size_alloc, World.size_drew] at hkz); (first | (have hkt := Nat.lt_of_succ_le hkz) | (have hkt := Nat.lt_of_lt_of_le (by assumption) hkz) | skip); clear hb)
          refine hK.out _ _ ?_ (fun hHeld2 => ?_)
          · (try dsimp only); (first | exact SB.mk hkB | exact SB.mk ((Below.refl _ _).drew) | (go_split_ands; refine SB.mk (Below.drew ?_); assumption) | (refine SB.mk ?_; go_grown; done) | (go_split_ands; refine SB.mk ?_; go_grown; done))
          clear hK K hHeld; have hHeld := hHeld2; clear hHeld2; (try simp only [Act.put, List.setIfInBounds_toArray, List.set_cons_zero, List.set_cons_succ])
          first | (refine take_on (i := 9) (v := ?_) rfl (by kernel_rfl) (by kernel_rfl) (by kernel_rfl) (fun _ _ _ h => h) rfl ?_ (by assumption) ?_; rotate_left; · (intro w' hSw; (try dsimp only at hSw); go_simp; (try with_reducible rfl))) | (refine take_off (i := 9) rfl (by kernel_rfl) (by kernel_rfl) (by kernel_rfl) (fun _ _ _ h => h) rfl (by assumption) ?_)
          (try simp only [Act.put, List.setIfInBounds_toArray, List.set_cons_zero, List.set_cons_succ])
          refine wpAnyH_done (by kernel_rfl) ?_ _
          go_split_ands
          go_wp2_with fail
          go_ret
          exact ⟨ret_bool (no_of hv hne.out).symm, Below.next hW (by assumption)⟩
        · have heq2 : Hid ((rl S).take (k + 1) = (rl T).take (k + 1)) := tk_more ka2 kb2 hsame.out (by rw [rl_at ka2 ka, rl_at kb2 kb]; exact HU.1 rfl)
          clear ka2 kb2
          go_wp2_with fail
          refine wp_region_held_drew (S := (fun w' => (∀ kb ko, kb < wr.heap.size → w'.cell? ⟨kb, ko, none⟩ = wr.cell? ⟨kb, ko, none⟩) ∧ wr.heap.size ≤ w'.heap.size ∧ Below wr.heap.size wr w')) (by kernel_rfl) ?_ (fun hHeld => ?_)
          · (try dsimp only); (first | exact SB.mk hkB | exact SB.mk ((Below.refl _ _).drew) | (go_split_ands; refine SB.mk (Below.drew ?_); assumption) | (refine SB.mk ?_; go_grown; done) | (go_split_ands; refine SB.mk ?_; go_grown; done))
          first | (refine take_on (i := 0) (v := ?_) rfl (by kernel_rfl) (by kernel_rfl) (by kernel_rfl) (fun _ _ _ h => h) rfl ?_ (by assumption) ?_; rotate_left; · (intro w' hSw; (try dsimp only at hSw); go_simp; (try with_reducible rfl))) | (refine take_off (i := 0) rfl (by kernel_rfl) (by kernel_rfl) (by kernel_rfl) (fun _ _ _ h => h) rfl (by assumption) ?_)
          (try simp only [Act.put, List.setIfInBounds_toArray, List.set_cons_zero, List.set_cons_succ])
          first | (refine take_on (i := 1) (v := ?_) rfl (by kernel_rfl) (by kernel_rfl) (by kernel_rfl) (fun _ _ _ h => h) rfl ?_ (by assumption) ?_; rotate_left; · (intro w' hSw; (try dsimp only at hSw); go_simp; (try with_reducible rfl))) | (refine take_off (i := 1) rfl (by kernel_rfl) (by kernel_rfl) (by kernel_rfl) (fun _ _ _ h => h) rfl (by assumption) ?_)
          (try simp only [Act.put, List.setIfInBounds_toArray, List.set_cons_zero, List.set_cons_succ])
          first | (refine take_on (i := 2) (v := ?_) rfl (by kernel_rfl) (by kernel_rfl) (by kernel_rfl) (fun _ _ _ h => h) rfl ?_ (by assumption) ?_; rotate_left; · (intro w' hSw; (try dsimp only at hSw); go_simp; (try with_reducible rfl))) | (refine take_off (i := 2) rfl (by kernel_rfl) (by kernel_rfl) (by kernel_rfl) (fun _ _ _ h => h) rfl (by assumption) ?_)
          (try simp only [Act.put, List.setIfInBounds_toArray, List.set_cons_zero, List.set_cons_succ])
          first | (refine take_on (i := 3) (v := ?_) rfl (by kernel_rfl) (by kernel_rfl) (by kernel_rfl) (fun _ _ _ h => h) rfl ?_ (by assumption) ?_; rotate_left; · (intro w' hSw; (try dsimp only at hSw); go_simp; (try with_reducible rfl))) | (refine take_off (i := 3) rfl (by kernel_rfl) (by kernel_rfl) (by kernel_rfl) (fun _ _ _ h => h) rfl (by assumption) ?_)
          (try simp only [Act.put, List.setIfInBounds_toArray, List.set_cons_zero, List.set_cons_succ])
          first | (refine take_on (i := 4) (v := ?_) rfl (by kernel_rfl) (by kernel_rfl) (by kernel_rfl) (fun _ _ _ h => h) rfl ?_ (by assumption) ?_; rotate_left; · (intro w' hSw; (try dsimp only at hSw); go_simp; (try with_reducible rfl))) | (refine take_off (i := 4) rfl (by kernel_rfl) (by kernel_rfl) (by kernel_rfl) (fun _ _ _ h => h) rfl (by assumption) ?_)
          (try simp only [Act.put, List.setIfInBounds_toArray, List.set_cons_zero, List.set_cons_succ])
          first | (refine take_on (i := 5) (v := ?_) rfl (by kernel_rfl) (by kernel_rfl) (by kernel_rfl) (fun _ _ _ h => h) rfl ?_ (by assumption) ?_; rotate_left; · (intro w' hSw; (try dsimp only at hSw); go_simp; (try with_reducible rfl))) | (refine take_off (i := 5) rfl (by kernel_rfl) (by kernel_rfl) (by kernel_rfl) (fun _ _ _ h => h) rfl (by assumption) ?_)
          (try simp only [Act.put, List.setIfInBounds_toArray, List.set_cons_zero, List.set_cons_succ])
          first | (refine take_on (i := 6) (v := ?_) rfl (by kernel_rfl) (by kernel_rfl) (by kernel_rfl) (fun _ _ _ h => h) rfl ?_ (by assumption) ?_; rotate_left; · (intro w' hSw; (try dsimp only at hSw); go_simp; (try with_reducible rfl))) | (refine take_off (i := 6) rfl (by kernel_rfl) (by kernel_rfl) (by kernel_rfl) (fun _ _ _ h => h) rfl (by assumption) ?_)
          (try simp only [Act.put, List.setIfInBounds_toArray, List.set_cons_zero, List.set_cons_succ])
          first | (refine take_on (i := 7) (v := ?_) rfl (by kernel_rfl) (by kernel_rfl) (by kernel_rfl) (fun _ _ _ h => h) rfl ?_ (by assumption) ?_; rotate_left; · (intro w' hSw; (try dsimp only at hSw); go_simp; (try with_reducible rfl))) | (refine take_off (i := 7) rfl (by kernel_rfl) (by kernel_rfl) (by kernel_rfl) (fun _ _ _ h => h) rfl (by assumption) ?_)
          (try simp only [Act.put, List.setIfInBounds_toArray, List.set_cons_zero, List.set_cons_succ])
          refine wpAnyH_ready (rs := [8]) (by kernel_rfl) (by simp) ?_
          refine AllReadyH.cons rfl (fun K hK => ?_) AllReadyH.nil
          rw [if_pos (by rfl)]
          go_simp
          first | (go_at_call 131; (with_reducible refine (l00Same_any S[k].A T[k].A S[k].l.length T[k].l.length S[k].c T[k].c S[k].l T[k].l _ _ HU (by first | exact P1.out | exact P1.out.drew) (by first | exact P2.out | exact P2.out.drew) rfl rfl hsa hsb).mono ?_); rintro e w' ⟨rfl, hb⟩; obtain ⟨_, hks, hkB⟩ := SB.next (by assumption) hb; obtain ⟨hkc, hkf⟩ := bcell hb; have hkz := hb.size; (try simp only [World.size_alloc, World.size_drew] at hkz); (first | (have hkt := Nat.lt_of_succ_le hkz) | (have hkt := Nat.lt_of_lt_of_le (by assumption) hkz) | skip); clear hb)
          refine hK.out _ _ ?_ (fun hHeld2 => ?_)
          · (try dsimp only); (first | exact SB.mk hkB | exact SB.mk ((Below.refl _ _).drew) | (go_split_ands; refine SB.mk (Below.drew ?_); assumption) | (refine SB.mk ?_; go_grown; done) | (go_split_ands; refine SB.mk ?_; go_grown; done))
          clear hK K hHeld; have hHeld := hHeld2; clear hHeld2; (try simp only [Act.put, List.setIfInBounds_toArray, List.set_cons_zero, List.set_cons_succ])
          first | (refine take_on (i := 9) (v := ?_) rfl (by kernel_rfl) (by kernel_rfl) (by kernel_rfl) (fun _ _ _ h => h) rfl ?_ (by assumption) ?_; rotate_left; · (intro w' hSw; (try dsimp only at hSw); go_simp; (try with_reducible rfl))) | (refine take_off (i := 9) rfl (by kernel_rfl) (by kernel_rfl) (by kernel_rfl) (fun _ _ _ h => h) rfl (by assumption) ?_)
          (try simp only [Act.put, List.setIfInBounds_toArray, List.set_cons_zero, List.set_cons_succ])
          refine wpAnyH_done (by kernel_rfl) ?_ _
          go_split_ands
          go_wp2_with fail
          go_roundw
          case rel => exact ⟨k + 1, by omega, by go_num, heq2, Below.next hW (by assumption)⟩
          case measure => simp [intOf]; omega
      · have hq : Hid (rl S = rl T) := tk_all (k := k) (by rw [rl_len]; have := LA.out; omega) (by rw [rl_len]; have := LD.out; omega) hsame.out
        go_wp2_with fail
        go_ret
        exact ⟨ret_bool (hv.2 hq.out).symm, hW⟩
  · have hne : Hid (¬ rl S = rl T) := fun e => hl (by rw [← LA.out, ← LD.out, ← rl_len S, ← rl_len T, e])
    have hlb : decide (n = m) = false := decide_eq_false hl
    go_enter Try.func107, Try.ntmps107
    go_wp2_with fail
    go_ret
    exact ⟨ret_bool (no_of hv hne.out).symm, Below.refl _ _⟩

set_option maxHeartbeats 4000000 in
theorem sameRowsC (s t : Sl (Sl Int)) (v : Bool) (w : World) (hv : Is v (rl s.l = rl t.l)) (ha : rowsK.rd w s) (hb : rowsK.rd w t) (hs : s.l.length ≤ 1048576 ∧ ∀ q ∈ s.l, q.l.length ≤ 1048576) (ht : t.l.length ≤ 1048576 ∧ ∀ q ∈ t.l, q.l.length ≤ 1048576) :
    Calls Try.prog 67 #[.agg #[.slice s.A s.l.length s.c], .agg #[.slice t.A t.l.length t.c]] w fun e w' => e = .returned (.bool v) ∧ Below w.heap.size w w' := by
  have hWa : Below w.heap.size w ((w.alloc (.cells #[.slice s.A s.l.length s.c] 82)).alloc (.cells #[.slice t.A t.l.length t.c] 82)) := by go_grown
  have HA := Lib.hid (rowsK_ok.below ha hWa)
  have HD := Lib.hid (rowsK_ok.below hb hWa)
  have HW := Lib.hid hWa
  clear ha hb hWa
  go_enter Try.func67, Try.ntmps67
  go_wp2_with fail
  refine (equalRows_any s.A t.A _ _ s.c t.c s.l t.l v _ hv HA.out HD.out rfl rfl hs.2 ht.2 hs.1 ht.1).mono ?_
  rintro e w2 ⟨rfl, hb2⟩
  have hB : Below w.heap.size w w2 := Below.next HW.out hb2
  clear hb2 HA HD
  go_wp2_with fail
  go_ret
  exact ⟨rfl, hB⟩

set_option maxHeartbeats 8000000 in
theorem equalStrokes_any (A B : Option Addr) (n m c d : Nat) (S T : List (Sl (Sl Int))) (v : Bool) (w : World) (hv : Is v (rl2 S = rl2 T)) (ha : stK.rd w ⟨A, c, S⟩) (hb : stK.rd w ⟨B, d, T⟩) (la : S.length = n) (lb : T.length = m) (hs : ∀ r ∈ S, r.l.length ≤ 1048576 ∧ ∀ q ∈ r.l, q.l.length ≤ 1048576) (ht : ∀ r ∈ T, r.l.length ≤ 1048576 ∧ ∀ q ∈ r.l, q.l.length ≤ 1048576) (hn : n ≤ 1048576) (hm : m ≤ 1048576) :
    Calls Try.prog 72 #[.slice A n c, .slice B m d, .func (.func 67) #[] #[]] w fun e w' => e = .returned (.bool v) ∧ Below w.heap.size w w' := by
  have h1 : Rd w A S.length 1 (rowOf hdC S) := ha.1
  have h2 : ∀ a ∈ S, rowsK.rd w a := ha.2
  have h3 : Rd w B T.length 1 (rowOf hdC T) := hb.1
  have h4 : ∀ a ∈ T, rowsK.rd w a := hb.2
  rw [la] at h1
  rw [lb] at h3
  have HA := Lib.hid h1
  have HX := Lib.hid h2
  have HD := Lib.hid h3
  have HY := Lib.hid h4
  have LA := Lib.hid la
  have LD := Lib.hid lb
  clear ha hb la lb h1 h2 h3 h4
  by_cases hl : n = m
  · subst hl
    go_enter Try.func72, Try.ntmps72
    go_wp2_with fail
    go_loopw [17] (fun i wr => ∃ k : Nat, k ≤ n ∧ i = .int .i64 (k : Int) ∧ Hid ((rl2 S).take k = (rl2 T).take k) ∧ Below w.heap.size w wr) (fun i _ => n - (intOf i).toNat)
    case atStart => exact ⟨0, Nat.zero_le _, rfl, rfl, Below.refl _ _⟩
    case round =>
      obtain ⟨k, hk, rfl, hsame, hW⟩ := hrel
      have hWs := hW.size
      by_cases hlt : k < n
      · have ka : k < S.length := by have := LA.out; omega
        have kb : k < T.length := by have := LD.out; omega
        have ka2 : k < (rl2 S).length := by rw [rl2_len]; exact ka
        have kb2 : k < (rl2 T).length := by rw [rl2_len]; exact kb
        obtain ⟨b3, o3, rfl, l3, q3⟩ := (HA.out.below hW).at hdC_len LA.out ka
        obtain ⟨b4, o4, rfl, l4, q4⟩ := (HD.out.below hW).at hdC_len LD.out kb
        have c1 : wr.cell? ⟨b3, o3 + k, none⟩ = some (.slice S[k].A S[k].l.length S[k].c) := by simpa [Sl.val] using q3 0 _ rfl
        have c2 : wr.cell? ⟨b4, o4 + k, none⟩ = some (.slice T[k].A T[k].l.length T[k].c) := by simpa [Sl.val] using q4 0 _ rfl
        have hsa := hs _ (List.getElem_mem ka)
        have hsb := ht _ (List.getElem_mem kb)
        have hk0 : (0 : Int) ≤ (k : Int) := by omega
        have hkn : (k : Int) < (n : Int) := by omega
        have hWa : Below w.heap.size w ((wr.alloc (.cells #[.slice S[k].A S[k].l.length S[k].c] 82)).alloc (.cells #[.slice T[k].A T[k].l.length T[k].c] 82)) := by go_grown
        have P1 := Lib.hid (rowsK_ok.below (HX.out _ (List.getElem_mem ka)) hWa)
        have P2 := Lib.hid (rowsK_ok.below (HY.out _ (List.getElem_mem kb)) hWa)
        clear q3 q4
        obtain ⟨u, hu⟩ := bool_of (rl S[k].l = rl T[k].l)
        have HU : Is u (rl S[k].l = rl T[k].l) := hu
        clear hu
        cases u
        · have hne : Hid (¬ rl2 S = rl2 T) := tk_part ka2 kb2 (by rw [rl2_at ka2 ka, rl2_at kb2 kb]; exact fun e => absurd (HU.2 e) (by simp))
          clear ka2 kb2
          go_wp2_with fail
          refine (sameRowsC S[k] T[k] _ _ HU P1.out P2.out hsa hsb).mono ?_
          rintro e w2 ⟨rfl, hb2⟩
          have hW2 : Below w.heap.size w w2 := Below.next hWa hb2
          clear hb2
          go_wp2_with fail
          go_ret
          exact ⟨ret_bool (no_of hv hne.out).symm, hW2⟩
        · have heq2 : Hid ((rl2 S).take (k + 1) = (rl2 T).take (k + 1)) := tk_more ka2 kb2 hsame.out (by rw [rl2_at ka2 ka, rl2_at kb2 kb]; exact HU.1 rfl)
          clear ka2 kb2
          go_wp2_with fail
          refine (sameRowsC S[k] T[k] _ _ HU P1.out P2.out hsa hsb).mono ?_
          rintro e w2 ⟨rfl, hb2⟩
          have hW2 : Below w.heap.size w w2 := Below.next hWa hb2
          clear hb2
          go_wp2_with fail
          go_roundw
          case rel => exact ⟨k + 1, by omega, by go_num, heq2, hW2⟩
          case measure => simp [intOf]; omega
      · have hq : Hid (rl2 S = rl2 T) := tk_all (k := k) (by rw [rl2_len]; have := LA.out; omega) (by rw [rl2_len]; have := LD.out; omega) hsame.out
        go_wp2_with fail
        go_ret
        exact ⟨ret_bool (hv.2 hq.out).symm, hW⟩
  · have hne : Hid (¬ rl2 S = rl2 T) := fun e => hl (by rw [← LA.out, ← LD.out, ← rl2_len S, ← rl2_len T, e])
    have hlb : decide (n = m) = false := decide_eq_false hl
    go_enter Try.func72, Try.ntmps72
    go_wp2_with fail
    go_ret
    exact ⟨ret_bool (no_of hv hne.out).symm, Below.refl _ _⟩
end Go.Proofs.Ytigingjpdlfanaa
