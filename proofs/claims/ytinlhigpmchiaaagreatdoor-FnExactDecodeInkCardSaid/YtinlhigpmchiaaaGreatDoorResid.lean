/-
  Residuals of a list: what is predicted; program and reference compute the same.
-/
import Derived.Test.YtinlhigpmchiaaaGreatDoorIntsTo
import Derived.Test.YtinlhigpmchiaaaGreatDoorSmall
namespace Go.Proofs.YtinlhigpmchiaaaGreatDoor
set_option linter.unusedSimpArgs false
set_option linter.unusedVariables false
set_option maxRecDepth 20000
open Go.RowKit
open Go.ChangeShapes Go.WideShapes Go.Deep Go.Joins

theorem getD_i {l : List Int} {k : Nat} (h : k < l.length) : l.getD k 0 = l[k] := by simp [List.getD, h]
def guessI (l : List Int) : Nat → Int
  | 0 => 0
  | 1 => l.getD 0 0
  | i + 2 => 2 * l.getD (i + 1) 0 - l.getD i 0
/-- every number may be predicted -/
def smallN (l : List Int) : Prop := ∀ x ∈ l, -125000000 ≤ x ∧ x ≤ 125000000
theorem smallN.at {l : List Int} (h : smallN l) {k : Nat} (hk : k < l.length) : -125000000 ≤ l[k] ∧ l[k] ≤ 125000000 := h _ (List.getElem_mem hk)
theorem smallN.getD {l : List Int} (h : smallN l) (k : Nat) : -125000000 ≤ l.getD k 0 ∧ l.getD k 0 ≤ 125000000 := by
  rcases Nat.lt_or_ge k l.length with hk | hk
  · rw [getD_i hk]; exact h.at hk
  · have : l.getD k 0 = 0 := by simp [List.getD, hk]
    omega
theorem guess_bd {l : List Int} (h : smallN l) (i : Nat) : -375000000 ≤ guessI l i ∧ guessI l i ≤ 375000000 := by
  match i with
  | 0 => simp [guessI]
  | 1 => have := h.getD 0; simp only [guessI]; omega
  | i + 2 => have := h.getD (i + 1); have := h.getD i; simp only [guessI]; omega
theorem guess_take {l : List Int} {k i : Nat} (h : i ≤ k) : guessI (l.take k) i = guessI l i := by
  match i, h with
  | 0, _ => rfl
  | 1, h => simp only [guessI, List.getD, List.getElem?_take]; rw [if_pos (by omega)]
  | i + 2, h => simp only [guessI, List.getD, List.getElem?_take]; rw [if_pos (by omega), if_pos (by omega)]
theorem guess_append {l : List Int} {y : Int} {i : Nat} (h : i ≤ l.length) : guessI (l ++ [y]) i = guessI l i := by
  have := guess_take (l := l ++ [y]) (k := l.length) h
  rw [List.take_left] at this
  exact this.symm

set_option maxHeartbeats 2000000 in
theorem predicted_any (A : Option Addr) (n c : Nat) (L : List Int) (w : World) (ha : Rd w A n 1 (rowOf iC L)) (la : L.length = n) (hb : smallN L) (hn : n ≤ 1048576) :
    Calls Tryz.prog 61 #[.slice A n c] w fun e w' => e = .returned (.int .i64 (guessI L n)) ∧ Below w.heap.size w w' := by
  rcases n with _ | _ | m
  · go_enter Tryz.func61, Tryz.ntmps61
    go_wp2_with fail
    go_ret
    exact ⟨rfl, by go_grown⟩
  · have k0 : 0 < L.length := by omega
    obtain ⟨b1, o1, rfl, l1, hc1⟩ := ha.at iC_len la k0
    have c1 : w.cell? ⟨b1, o1, none⟩ = some (.int .i64 L[0]) := by simpa using hc1 0 _ rfl
    have hg : Hid (guessI L 1 = L[0]) := by rw [Hid, guessI, getD_i k0]
    clear hc1 ha
    go_enter Tryz.func61, Tryz.ntmps61
    go_wp2_with fail
    go_ret
    exact ⟨ret_int hg.out.symm, by go_grown⟩
  · have k0 : m < L.length := by omega
    have k1 : m + 1 < L.length := by omega
    obtain ⟨b1, o1, rfl, l1, hc1⟩ := ha.at iC_len la k0
    obtain ⟨_, _, e0, _, hc2⟩ := ha.at iC_len la k1
    cases e0
    have c1 : w.cell? ⟨b1, o1 + m, none⟩ = some (.int .i64 L[m]) := by simpa using hc1 0 _ rfl
    have c2 : w.cell? ⟨b1, o1 + (m + 1), none⟩ = some (.int .i64 L[m + 1]) := by simpa using hc2 0 _ rfl
    have h20 : ((m : Int) + 2 == 0) = false := by simp; omega
    have h21 : ((m : Int) + 2 == 1) = false := by simp; omega
    have hm0 : (0 : Int) ≤ (m : Int) := by omega
    have hm1 : (0 : Int) ≤ (m : Int) + 1 := by omega
    have hw1 : IntKind.i64.wrap ((m : Int) + 1) = (m : Int) + 1 := IntWalk.i64_in _ (by omega)
    have hw0 : IntKind.i64.wrap (m : Int) = (m : Int) := IntWalk.i64_in _ (by omega)
    have hw2 : IntKind.i64.wrap ((m : Int) + 1 + 1 - 2) = (m : Int) := by rw [show (m : Int) + 1 + 1 - 2 = m by omega]; exact hw0
    have hmt : ((m : Int) + 1).toNat = m + 1 := by omega
    have b0 := hb.at k0
    have b1' := hb.at k1
    have hv1 : IntKind.i64.wrap (2 * L[m + 1]) = 2 * L[m + 1] := IntWalk.i64_in _ (by omega)
    have hv2 : IntKind.i64.wrap (2 * L[m + 1] - L[m]) = 2 * L[m + 1] - L[m] := IntWalk.i64_in _ (by omega)
    have hg : Hid (guessI L (m + 2) = 2 * L[m + 1] - L[m]) := by rw [Hid, guessI, getD_i k0, getD_i k1]
    have hlt1 : (m : Int) + 1 < (m : Int) + 1 + 1 := by omega
    have hlt0 : (m : Int) < (m : Int) + 1 + 1 := by omega
    have LA := Lib.hid la
    clear hc1 hc2 ha hb la b0 b1'
    go_enter Tryz.func61, Tryz.ntmps61
    go_wp2_with fail
    go_region_held3 (fun w' => (∀ kb ko, kb < w.heap.size → w'.cell? ⟨kb, ko, none⟩ = w.cell? ⟨kb, ko, none⟩) ∧ w.heap.size ≤ w'.heap.size ∧ Below w.heap.size w w') (first | exact SB.mk hkB | exact SB.mk ((Below.refl _ _).drew) | (go_split_ands; refine SB.mk (Below.drew ?_); assumption) | (refine SB.mk ?_; go_grown; done) | (go_split_ands; refine SB.mk ?_; go_grown; done)) (fail)
    go_split_ands
    go_wp2_with fail
    go_ret
    exact ⟨ret_int hg.out.symm, by go_grown⟩

set_option maxHeartbeats 2000000 in
theorem l04Guess_any (A : Option Addr) (n c i : Nat) (L : List Int) (w : World) (ha : Rd w A n 1 (rowOf iC L)) (la : L.length = n) (hb : smallN L) (hn : n ≤ 1048576) (hi : i ≤ n) :
    Calls Tryz.prog 69 #[.slice A n c, .int .i64 (i : Int)] w fun e w' => e = .returned (.int .i64 (guessI L i)) ∧ Below w.heap.size w w' := by
  rcases i with _ | _ | m
  · go_enter Tryz.func69, Tryz.ntmps69
    go_wp2_with fail
    go_ret
    exact ⟨rfl, by go_grown⟩
  · have k0 : 0 < L.length := by omega
    obtain ⟨b1, o1, rfl, l1, hc1⟩ := ha.at iC_len la k0
    have c1 : w.cell? ⟨b1, o1, none⟩ = some (.int .i64 L[0]) := by simpa using hc1 0 _ rfl
    have hg : Hid (guessI L 1 = L[0]) := by rw [Hid, guessI, getD_i k0]
    have hn0 : 0 < n := by omega
    have LA := Lib.hid la
    clear hc1 ha la
    go_enter Tryz.func69, Tryz.ntmps69
    go_wp2_with fail
    go_ret
    exact ⟨ret_int hg.out.symm, by go_grown⟩
  · have k0 : m < L.length := by omega
    have k1 : m + 1 < L.length := by omega
    obtain ⟨b1, o1, rfl, l1, hc1⟩ := ha.at iC_len la k0
    obtain ⟨_, _, e0, _, hc2⟩ := ha.at iC_len la k1
    cases e0
    have c1 : w.cell? ⟨b1, o1 + m, none⟩ = some (.int .i64 L[m]) := by simpa using hc1 0 _ rfl
    have c2 : w.cell? ⟨b1, o1 + (m + 1), none⟩ = some (.int .i64 L[m + 1]) := by simpa using hc2 0 _ rfl
    have h20 : ((m : Int) + 2 == 0) = false := by simp; omega
    have h21 : ((m : Int) + 2 == 1) = false := by simp; omega
    have hm0 : (0 : Int) ≤ (m : Int) := by omega
    have hm1 : (0 : Int) ≤ (m : Int) + 1 := by omega
    have hw1 : IntKind.i64.wrap ((m : Int) + 1) = (m : Int) + 1 := IntWalk.i64_in _ (by omega)
    have hw0 : IntKind.i64.wrap (m : Int) = (m : Int) := IntWalk.i64_in _ (by omega)
    have hw2 : IntKind.i64.wrap ((m : Int) + 1 + 1 - 2) = (m : Int) := by rw [show (m : Int) + 1 + 1 - 2 = m by omega]; exact hw0
    have hmt : ((m : Int) + 1).toNat = m + 1 := by omega
    have b0 := hb.at k0
    have b1' := hb.at k1
    have hv1 : IntKind.i64.wrap (2 * L[m + 1]) = 2 * L[m + 1] := IntWalk.i64_in _ (by omega)
    have hv2 : IntKind.i64.wrap (2 * L[m + 1] - L[m]) = 2 * L[m + 1] - L[m] := IntWalk.i64_in _ (by omega)
    have hg : Hid (guessI L (m + 2) = 2 * L[m + 1] - L[m]) := by rw [Hid, guessI, getD_i k0, getD_i k1]
    have hlt1 : (m : Int) + 1 < (n : Int) := by omega
    have hlt0 : (m : Int) < (n : Int) := by omega
    have LA := Lib.hid la
    clear hc1 hc2 ha hb la b0 b1'
    go_enter Tryz.func69, Tryz.ntmps69
    go_wp2_with fail
    go_region_held3 (fun w' => (∀ kb ko, kb < w.heap.size → w'.cell? ⟨kb, ko, none⟩ = w.cell? ⟨kb, ko, none⟩) ∧ w.heap.size ≤ w'.heap.size ∧ Below w.heap.size w w') (first | exact SB.mk hkB | exact SB.mk ((Below.refl _ _).drew) | (go_split_ands; refine SB.mk (Below.drew ?_); assumption) | (refine SB.mk ?_; go_grown; done) | (go_split_ands; refine SB.mk ?_; go_grown; done)) (fail)
    go_split_ands
    go_wp2_with fail
    go_ret
    exact ⟨ret_int hg.out.symm, by go_grown⟩

/-- the residuals of the first k -/
def residTo (l : List Int) (k : Nat) : List Int := (List.range k).map fun i => l.getD i 0 - guessI l i
theorem residTo_len (l : List Int) (k : Nat) : (residTo l k).length = k := by simp [residTo]
theorem residTo_next {l : List Int} {k : Nat} (h : k < l.length) : residTo l (k + 1) = residTo l k ++ [l[k] - guessI l k] := by simp [residTo, List.range_succ, h]
instance (l : List Int) : Decidable (smallN l) := by unfold smallN; infer_instance
def smallB (l : List Int) : Bool := decide (l.length ≤ 60 ∧ smallN l)
def residR (l : List Int) : List Int × Int := if smallB l = true then (residTo l l.length, 0) else ([], 2)
theorem residR_len (l : List Int) : (residR l).1.length ≤ 60 := by
  unfold residR
  split
  · rename_i h
    show (residTo l l.length).length ≤ 60
    rw [residTo_len]
    exact (of_decide_eq_true h).1
  · simp
/-- the first k may be predicted -/
def smallTo (l : List Int) (k : Nat) : Prop := ∀ (j : Nat) (h : j < l.length), j < k → -125000000 ≤ l[j] ∧ l[j] ≤ 125000000
theorem small_all {l : List Int} {k : Nat} (h : smallTo l k) (hk : l.length ≤ k) : smallN l := fun x hx => by
  obtain ⟨j, hj, rfl⟩ := List.getElem_of_mem hx
  exact h j hj (by omega)
theorem small_next {l : List Int} {k : Nat} (h : smallTo l k) (hk : k < l.length) (hx : -125000000 ≤ l[k] ∧ l[k] ≤ 125000000) : smallTo l (k + 1) := fun j hj hlt => by
  rcases Nat.lt_or_ge j k with h1 | h1
  · exact h j hj h1
  · obtain rfl : j = k := by omega
    exact hx
theorem small_no {l : List Int} {k : Nat} (hk : k < l.length) (hx : ¬ (-125000000 ≤ l[k] ∧ l[k] ≤ 125000000)) : smallB l = false := decide_eq_false fun h => hx (h.2.at hk)
theorem residR_no {l : List Int} (h : smallB l = false) : residR l = ([], 2) := by rw [residR, h]; rfl
theorem residR_yes {l : List Int} (h : smallB l = true) : residR l = (residTo l l.length, 0) := by rw [residR, h]; rfl

theorem isPredicted_any (n : Int) (w : World) :
    Calls Tryz.prog 75 #[.int .i64 n] w fun e w' => e = .returned (.bool (inB n (-125000000) 125000000)) ∧ w = w' := by
  go_enter Tryz.func75, Tryz.ntmps75
  go_wp2_with (go_at_call 77; refine (within_any _ _ _ _).mono ?_; rintro e w' ⟨rfl, rfl⟩)
  go_ret
  exact ⟨rfl, rfl⟩
theorem isPredicted_of {n : Int} {b : Bool} (h : Hid (inB n (-125000000) 125000000 = b)) (w : World) :
    Calls Tryz.prog 75 #[.int .i64 n] w fun e w' => e = .returned (.bool b) ∧ w = w' := by rw [← h.out]; exact isPredicted_any n w
theorem l00In_hid {n low high : Int} {b : Bool} (h : Hid (inB n low high = b)) (w : World) :
    Calls Tryz.prog 53 #[.int .i64 n, .int .i64 low, .int .i64 high] w fun e w' => e = .returned (.bool b) ∧ w = w' := by
  rw [← h.out]; exact l00In_any n low high w

set_option maxHeartbeats 4000000 in
theorem residualsOf_any (A : Option Addr) (n c : Nat) (L : List Int) (w : World) (ha : Rd w A n 1 (rowOf iC L)) (la : L.length = n) (hb : smallN L) (hn : n ≤ 60) (hc0 : n ≤ c) (hc1 : c ≤ 9223372036854775807) :
    Calls Tryz.prog 43 #[.slice A n c] w fun e w' => (∃ v, e = .returned v ∧ Own iC 2 1 w' w.heap.size v (residTo L n)) ∧ Below w.heap.size w w' := by
  have HA := Lib.hid ha
  have LA := Lib.hid la
  have HB := Lib.hid hb
  clear ha la hb
  go_enter Tryz.func43, Tryz.ntmps43
  go_wp2_with fail
  go_loopw [3, 8] (fun a i wr => ∃ k : Nat, k ≤ n ∧ i = .int .i64 k ∧ Own iC 2 1 wr w.heap.size a (residTo L k) ∧ Below w.heap.size w wr) (fun _ i _ => n - (intOf i).toNat)
  case atStart => exact ⟨0, Nat.zero_le _, rfl, Own.nil _ _ _ _ _, Below.refl _ _⟩
  case round =>
    obtain ⟨k, hk, rfl, hown, hB⟩ := hrel
    have hBs := hB.size
    by_cases hlt : k < n
    · have ka : k < L.length := by have := LA.out; omega
      have HAr := Lib.hid (HA.out.below hB)
      have HT : Hid (Rd wr A k 1 (rowOf iC (L.take k))) := HAr.out.take (Nat.le_of_lt hlt)
      obtain ⟨b1, o1, rfl, l1, hc2⟩ := HAr.out.at iC_len LA.out ka
      have c1 : wr.cell? ⟨b1, o1 + k, none⟩ = some (.int .i64 L[k]) := by simpa using hc2 0 _ rfl
      have HO := Lib.hid hown
      have hbk := HB.out.at ka
      have hgb := guess_bd HB.out k
      have HG : Hid (guessI (L.take k) k = guessI L k) := guess_take (Nat.le_refl _)
      have HN : Hid (residTo L (k + 1) = residTo L k ++ [L[k] - guessI L k]) := residTo_next ka
      clear hc2 hown
      go_wp2_with fail
      refine (predicted_any _ k _ (L.take k) _ HT.out (by rw [List.length_take, LA.out]; omega) (fun x hx => HB.out x (List.mem_of_mem_take hx)) (by omega)).mono ?_
      rintro e w4 ⟨rfl, hb4⟩
      rw [HG.out]
      have HO4 := Lib.hid (HO.out.next hb4)
      have hz4 := hb4.size
      have hB4 := Below.next hB hb4
      go_wp2_with ((at_builtin; refine list_push elem_int (by rfl) (.tmp 13) (.tmp 20) 55 (by rfl) Tryz.underlying55 w.heap.size _ (residTo L k) (L[k] - guessI L k) (by rfl) (HO4.out.alloc _) k (residTo_len _ _) w4.heap.size 1 (by rfl) (fun i u hu => by rw [(Bk.new w4 #[.int .i64 (L[k] - guessI L k)] 2).cell i]; simpa [iC] using hu) (by unfold maxLen; omega) (by omega) (by simp only [World.size_alloc]; omega) ?_; intro g5 cap5 w5 hown5 hgrow5 hat5 hlt5 hkeep5))
      have hG : Below w.heap.size w w5 := (hB4.alloc (by omega) _).grown hgrow5 (by simp only [World.size_alloc]; omega) (fun k hk => (HO4.out.lt k hk).1)
      go_roundw
      case rel => exact ⟨k + 1, by omega, by go_num, by rw [HN.out]; exact hown5, hG⟩
      case measure => simp [intOf]; omega
    · obtain rfl : k = n := by omega
      go_wp2_with fail
      go_ret
      exact ⟨⟨_, rfl, hown⟩, hB⟩

set_option maxHeartbeats 4000000 in
theorem l04Residuals_any (A : Option Addr) (n c : Nat) (L : List Int) (w : World) (ha : Rd w A n 1 (rowOf iC L)) (la : L.length = n) (hb : smallN L) (hn : n ≤ 60) :
    Calls Tryz.prog 54 #[.slice A n c] w fun e w' => (∃ v, e = .returned v ∧ Own iC 2 1 w' w.heap.size v (residTo L n)) ∧ Below w.heap.size w w' := by
  have HA := Lib.hid ha
  have LA := Lib.hid la
  have HB := Lib.hid hb
  clear ha la hb
  go_enter Tryz.func54, Tryz.ntmps54
  go_wp2_with fail
  go_loopw [3, 4] (fun a i wr => ∃ k : Nat, k ≤ n ∧ i = .int .i64 k ∧ Own iC 2 1 wr w.heap.size a (residTo L k) ∧ Below w.heap.size w wr) (fun _ i _ => n - (intOf i).toNat)
  case atStart => exact ⟨0, Nat.zero_le _, rfl, Own.of_bk (l := []) (Bk.new w #[] 2) iC_len (by decide) (Nat.le_refl _), by go_grown⟩
  case round =>
    obtain ⟨k, hk, rfl, hown, hB⟩ := hrel
    have hBs := hB.size
    by_cases hlt : k < n
    · have ka : k < L.length := by have := LA.out; omega
      have HAr := Lib.hid (HA.out.below hB)
      obtain ⟨b1, o1, rfl, l1', _⟩ := HA.out.at iC_len LA.out ka
      obtain ⟨_, _, e0, l1, hc2⟩ := HAr.out.at iC_len LA.out ka
      cases e0
      have c1 : wr.cell? ⟨b1, o1 + k, none⟩ = some (.int .i64 L[k]) := by simpa using hc2 0 _ rfl
      have HO := Lib.hid hown
      have HI := hown.lt
      have hne : ¬ u3.ownBlock = some b1 := fun e => by have h1 := HI _ e; omega
      have HIh := Lib.hid HI
      have hbk := HB.out.at ka
      have hgb := guess_bd HB.out k
      have HN : Hid (residTo L (k + 1) = residTo L k ++ [L[k] - guessI L k]) := residTo_next ka
      have hk0 : (0 : Int) ≤ (k : Int) := by omega
      have hkn : (k : Int) < (n : Int) := by omega
      have hwd : IntKind.i64.wrap (L[k] - guessI L k) = L[k] - guessI L k := IntWalk.i64_in _ (by omega)
      clear hc2 hown HI
      go_wp2_with fail
      refine wp_region_held_drew (S := (fun w' => (∀ kb ko, kb < wr.heap.size → ¬ u3.ownBlock = some kb → w'.cell? ⟨kb, ko, none⟩ = wr.cell? ⟨kb, ko, none⟩) ∧ wr.heap.size ≤ w'.heap.size ∧ Below w.heap.size wr w')) (by kernel_rfl) ?_ (fun hHeld => ?_)
      · (try dsimp only); exact S3.mk ((Below.refl _ _).drew) (by omega)
      first | (refine take_on (i := 0) (v := ?_) rfl (by kernel_rfl) (by kernel_rfl) (by kernel_rfl) (fun _ _ _ h => h) rfl ?_ (by assumption) ?_; rotate_left; · (intro w' hSw; (try dsimp only at hSw); go_simp; (try with_reducible rfl))) | (refine take_off (i := 0) rfl (by kernel_rfl) (by kernel_rfl) (by kernel_rfl) (fun _ _ _ h => h) rfl (by assumption) ?_)
      (try simp only [Act.put, List.setIfInBounds_toArray, List.set_cons_zero, List.set_cons_succ])
      first | (refine take_on (i := 1) (v := ?_) rfl (by kernel_rfl) (by kernel_rfl) (by kernel_rfl) (fun _ _ _ h => h) rfl ?_ (by assumption) ?_; rotate_left; · (intro w' hSw; (try dsimp only at hSw); go_simp; (try with_reducible rfl))) | (refine take_off (i := 1) rfl (by kernel_rfl) (by kernel_rfl) (by kernel_rfl) (fun _ _ _ h => h) rfl (by assumption) ?_)
      (try simp only [Act.put, List.setIfInBounds_toArray, List.set_cons_zero, List.set_cons_succ])
      first | (refine take_on (i := 2) (v := ?_) rfl (by kernel_rfl) (by kernel_rfl) (by kernel_rfl) (fun _ _ _ h => h) rfl ?_ (by assumption) ?_; rotate_left; · (intro w' hSw; (try dsimp only at hSw); go_simp; (try with_reducible rfl))) | (refine take_off (i := 2) rfl (by kernel_rfl) (by kernel_rfl) (by kernel_rfl) (fun _ _ _ h => h) rfl (by assumption) ?_)
      (try simp only [Act.put, List.setIfInBounds_toArray, List.set_cons_zero, List.set_cons_succ])
      first | (refine take_on (i := 3) (v := ?_) rfl (by kernel_rfl) (by kernel_rfl) (by kernel_rfl) (fun _ _ _ h => h) rfl ?_ (by assumption) ?_; rotate_left; · (intro w' hSw; (try dsimp only at hSw); go_simp; (try with_reducible rfl))) | (refine take_off (i := 3) rfl (by kernel_rfl) (by kernel_rfl) (by kernel_rfl) (fun _ _ _ h => h) rfl (by assumption) ?_)
      (try simp only [Act.put, List.setIfInBounds_toArray, List.set_cons_zero, List.set_cons_succ])
      first | (refine take_on (i := 4) (v := ?_) rfl (by kernel_rfl) (by kernel_rfl) (by kernel_rfl) (fun _ _ _ h => h) rfl ?_ (by assumption) ?_; rotate_left; · (intro w' hSw; (try dsimp only at hSw); go_simp; (try with_reducible rfl))) | (refine take_off (i := 4) rfl (by kernel_rfl) (by kernel_rfl) (by kernel_rfl) (fun _ _ _ h => h) rfl (by assumption) ?_)
      (try simp only [Act.put, List.setIfInBounds_toArray, List.set_cons_zero, List.set_cons_succ])
      first | (refine take_on (i := 5) (v := ?_) rfl (by kernel_rfl) (by kernel_rfl) (by kernel_rfl) (fun _ _ _ h => h) rfl ?_ (by assumption) ?_; rotate_left; · (intro w' hSw; (try dsimp only at hSw); go_simp; (try with_reducible rfl))) | (refine take_off (i := 5) rfl (by kernel_rfl) (by kernel_rfl) (by kernel_rfl) (fun _ _ _ h => h) rfl (by assumption) ?_)
      (try simp only [Act.put, List.setIfInBounds_toArray, List.set_cons_zero, List.set_cons_succ])
      first | (refine take_on (i := 6) (v := ?_) rfl (by kernel_rfl) (by kernel_rfl) (by kernel_rfl) (fun _ _ _ h => h) rfl ?_ (by assumption) ?_; rotate_left; · (intro w' hSw; (try dsimp only at hSw); go_simp; (try with_reducible rfl))) | (refine take_off (i := 6) rfl (by kernel_rfl) (by kernel_rfl) (by kernel_rfl) (fun _ _ _ h => h) rfl (by assumption) ?_)
      (try simp only [Act.put, List.setIfInBounds_toArray, List.set_cons_zero, List.set_cons_succ])
      refine wpAnyH_ready (rs := [7]) (by kernel_rfl) (by simp) ?_
      refine AllReadyH.cons rfl (fun K hK => ?_) AllReadyH.nil
      rw [if_pos (by rfl)]
      go_simp
      go_at_call 69
      refine (l04Guess_any _ n c k L _ HAr.out.drew LA.out HB.out (by omega) (by omega)).mono ?_
      rintro e w4 ⟨rfl, hb4⟩
      have hB4 : Below wr.heap.size wr w4 := Below.next (by go_grown) hb4
      have HO4 := Lib.hid (HO.out.next hB4)
      have hz4 := hB4.size
      refine hK.out _ _ ?_ (fun hHeld2 => ?_)
      · (try dsimp only); exact S3.mk hB4 (by omega)
      clear hK K hHeld; have hHeld := hHeld2; clear hHeld2; (try simp only [Act.put, List.setIfInBounds_toArray, List.set_cons_zero, List.set_cons_succ])
      first | (refine take_on (i := 8) (v := ?_) rfl (by kernel_rfl) (by kernel_rfl) (by kernel_rfl) (fun _ _ _ h => h) rfl ?_ (by assumption) ?_; rotate_left; · (intro w' hSw; (try dsimp only at hSw); go_simp; (try with_reducible rfl))) | (refine take_off (i := 8) rfl (by kernel_rfl) (by kernel_rfl) (by kernel_rfl) (fun _ _ _ h => h) rfl (by assumption) ?_)
      (try simp only [Act.put, List.setIfInBounds_toArray, List.set_cons_zero, List.set_cons_succ])
      refine wpAnyH_ready (rs := [9]) (by kernel_rfl) (by simp) ?_
      refine AllReadyH.cons rfl (fun K hK => ?_) AllReadyH.nil
      rw [if_pos (by rfl)]
      go_simp
      refine hK.out _ _ ?_ (fun hHeld2 => ?_)
      · (try dsimp only); exact S3.mk (by go_grown) (by omega)
      clear hK K hHeld; have hHeld := hHeld2; clear hHeld2; (try simp only [Act.put, List.setIfInBounds_toArray, List.set_cons_zero, List.set_cons_succ])
      refine wpAnyH_ready (rs := [10]) (by kernel_rfl) (by simp) ?_
      refine AllReadyH.cons rfl (fun K hK => ?_) AllReadyH.nil
      refine step_push elem_int (by rfl) (.tmp 12) (.tmp 21) 55 (by rfl) Tryz.underlying55 w.heap.size _ (residTo L k) (L[k] - guessI L k) (by rfl) (HO4.out.alloc _) k (residTo_len _ _) w4.heap.size 1 (by rfl) (fun i u hu => by rw [(Bk.new w4 #[.int .i64 (L[k] - guessI L k)] 2).cell i]; simpa [iC] using hu) (by unfold maxLen; omega) (by omega) (by simp only [World.size_alloc]; omega) ?_
      intro g5 cap5 w5 hown5 hgrow5 hat5 hlt5 hkeep5
      refine hK.out _ _ ?_ (fun hHeld2 => ?_)
      · (try dsimp only); exact S3.push hHeld hgrow5 (fun k hk => (HIh.out k hk).1) (by simp only [World.size_alloc]; omega)
      clear hK K hHeld; have hHeld := hHeld2; clear hHeld2; (try simp only [Act.put, List.setIfInBounds_toArray, List.set_cons_zero, List.set_cons_succ])
      first | (refine take_on (i := 11) (v := ?_) rfl (by kernel_rfl) (by kernel_rfl) (by kernel_rfl) (fun _ _ _ h => h) rfl ?_ (by assumption) ?_; rotate_left; · (intro w' hSw; (try dsimp only at hSw); go_simp; (try with_reducible rfl))) | (refine take_off (i := 11) rfl (by kernel_rfl) (by kernel_rfl) (by kernel_rfl) (fun _ _ _ h => h) rfl (by assumption) ?_)
      (try simp only [Act.put, List.setIfInBounds_toArray, List.set_cons_zero, List.set_cons_succ])
      refine wpAnyH_done (by kernel_rfl) ?_ _
      have hS := hHeld.2.2
      clear hHeld hwd
      go_wp2_with fail
      go_roundw
      case rel => exact ⟨k + 1, by omega, by go_num, by rw [HN.out]; exact hown5, hB.trans hS⟩
      case measure => simp [intOf]; omega
    · obtain rfl : k = n := by omega
      go_wp2_with fail
      go_ret
      exact ⟨⟨_, rfl, hown⟩, hB⟩

end Go.Proofs.YtinlhigpmchiaaaGreatDoor
