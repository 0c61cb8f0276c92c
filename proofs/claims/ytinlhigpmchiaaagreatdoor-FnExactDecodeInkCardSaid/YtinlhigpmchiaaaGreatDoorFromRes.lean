/-
  A list made from residuals: program and reference make the same, or refuse alike.
-/
import Derived.Test.YtinlhigpmchiaaaGreatDoorResid
namespace Go.Proofs.YtinlhigpmchiaaaGreatDoor
set_option linter.unusedSimpArgs false
set_option linter.unusedVariables false
set_option maxRecDepth 20000
open Go.RowKit
open Go.ChangeShapes Go.WideShapes Go.Deep Go.Joins

def restP (l : List Int) : Prop := ∀ x ∈ l, -1000000000 ≤ x ∧ x ≤ 1000000000
instance (l : List Int) : Decidable (restP l) := by unfold restP; infer_instance
def allB (l : List Int) : Bool := decide (l.length ≤ 60 ∧ restP l)
theorem restP.at {l : List Int} (h : restP l) {k : Nat} (hk : k < l.length) : -1000000000 ≤ l[k] ∧ l[k] ≤ 1000000000 := h _ (List.getElem_mem hk)
def restTo (l : List Int) (k : Nat) : Prop := ∀ (j : Nat) (h : j < l.length), j < k → -1000000000 ≤ l[j] ∧ l[j] ≤ 1000000000
theorem rest_all {l : List Int} {k : Nat} (h : restTo l k) (hk : l.length ≤ k) : restP l := fun x hx => by
  obtain ⟨j, hj, rfl⟩ := List.getElem_of_mem hx
  exact h j hj (by omega)
theorem rest_next {l : List Int} {k : Nat} (h : restTo l k) (hk : k < l.length) (hx : -1000000000 ≤ l[k] ∧ l[k] ≤ 1000000000) : restTo l (k + 1) := fun j hj hlt => by
  rcases Nat.lt_or_ge j k with h1 | h1
  · exact h j hj h1
  · obtain rfl : j = k := by omega
    exact hx
theorem all_no {l : List Int} {k : Nat} (hk : k < l.length) (hx : ¬ (-1000000000 ≤ l[k] ∧ l[k] ≤ 1000000000)) : allB l = false := decide_eq_false fun h => hx (h.2.at hk)

/-- the list of the first k residuals, if all its numbers may be predicted -/
def fromTo (l : List Int) : Nat → Option (List Int)
  | 0 => some []
  | k + 1 => match fromTo l k with
    | none => none
    | some out => if inB (l.getD k 0 + guessI out k) (-125000000) 125000000 = true then some (out ++ [l.getD k 0 + guessI out k]) else none
theorem fromTo_len {l : List Int} {k : Nat} {out : List Int} (h : fromTo l k = some out) : out.length = k := by
  induction k generalizing out with
  | zero => simp [fromTo] at h; subst h; rfl
  | succ k ih =>
    unfold fromTo at h
    split at h
    · cases h
    · rename_i o ho
      split at h
      · injection h with h; subst h; rw [List.length_append, ih ho]; rfl
      · cases h
theorem fromTo_small {l : List Int} {k : Nat} {out : List Int} (h : fromTo l k = some out) : smallN out := by
  induction k generalizing out with
  | zero => simp [fromTo] at h; subst h; intro x hx; cases hx
  | succ k ih =>
    unfold fromTo at h
    split at h
    · cases h
    · rename_i o ho
      split at h
      · rename_i hb
        injection h with h
        subst h
        intro x hx
        rw [List.mem_append] at hx
        rcases hx with hx | hx
        · exact ih ho x hx
        · simp at hx; subst hx; exact inB_true hb
      · cases h
theorem fromTo_no {l : List Int} {k m : Nat} (h : fromTo l k = none) (hk : k ≤ m) : fromTo l m = none := by
  induction m with
  | zero => obtain rfl : k = 0 := by omega
            exact h
  | succ m ih =>
    rcases Nat.lt_or_ge m k with h1 | h1
    · obtain rfl : k = m + 1 := by omega
      exact h
    · unfold fromTo; rw [ih h1]
theorem from_bad {l out : List Int} {k : Nat} (hk : k < l.length) (h : fromTo l k = some out) (hx : inB (l[k] + guessI out k) (-125000000) 125000000 = false) : fromTo l (k + 1) = none := by
  unfold fromTo; rw [h]; simp only; rw [getD_i hk, hx]; rfl
theorem from_good {l out : List Int} {k : Nat} (hk : k < l.length) (h : fromTo l k = some out) (hx : inB (l[k] + guessI out k) (-125000000) 125000000 = true) : fromTo l (k + 1) = some (out ++ [l[k] + guessI out k]) := by
  unfold fromTo; rw [h]; simp only; rw [getD_i hk, hx]; rfl
def fromR (l : List Int) : List Int × Int := if allB l = true then (match fromTo l l.length with | some out => (out, 0) | none => ([], 2)) else ([], 2)
theorem fromR_no {l : List Int} (h : allB l = false) : fromR l = ([], 2) := by rw [fromR, h]; rfl
theorem fromR_none {l : List Int} {k : Nat} (h : fromTo l k = none) (hk : k ≤ l.length) : fromR l = ([], 2) := by
  rw [fromR, fromTo_no h hk]; split <;> rfl
theorem fromR_some {l out : List Int} (h : allB l = true) (h2 : fromTo l l.length = some out) : fromR l = (out, 0) := by rw [fromR, h, h2]; rfl
theorem fromR_len (l : List Int) : (fromR l).1.length ≤ 60 := by
  unfold fromR
  split
  · rename_i h
    split
    · rename_i out ho
      show out.length ≤ 60
      rw [fromTo_len ho]
      exact (of_decide_eq_true h).1
    · simp
  · simp

theorem isResidual_of {n : Int} {b : Bool} (h : Hid (inB n (-1000000000) 1000000000 = b)) (w : World) :
    Calls Tryz.prog 74 #[.int .i64 n] w fun e w' => e = .returned (.bool b) ∧ w = w' := by
  go_enter Tryz.func74, Tryz.ntmps74
  go_wp2_with (go_at_call 77; refine (within_any _ _ _ _).mono ?_; rintro e w' ⟨rfl, rfl⟩)
  go_ret
  exact ⟨ret_bool h.out, rfl⟩
theorem l04Res_of {n : Int} {b : Bool} (h : Hid (inB n (-1000000000) 1000000000 = b)) (w : World) :
    Calls Tryz.prog 68 #[.int .i64 n] w fun e w' => e = .returned (.bool b) ∧ w = w' := by
  go_enter Tryz.func68, Tryz.ntmps68
  go_wp2_with (go_at_call 53; refine (l00In_any _ _ _ _).mono ?_; rintro e w' ⟨rfl, rfl⟩)
  go_ret
  exact ⟨ret_bool h.out, rfl⟩

set_option maxHeartbeats 8000000 in
theorem iFromResiduals (A : Option Addr) (n c N : Nat) (code : Int) (xs L : List Int) (w : World) (ha : Rd w A n 1 (rowOf iC xs)) (la : xs.length = n) (hn : n ≤ 1048576) (hR : fromR xs = (L, code)) (hN : L.length = N) :
    Calls Tryz.prog 59 #[.slice A n c] w fun e w' => ∃ A2 c2, e = .returned (.tuple #[.slice A2 N c2, .int .i64 code]) ∧ Own iC 2 1 w' w.heap.size (.slice A2 N c2) L ∧ Below w.heap.size w w' := by
  by_cases h60 : n ≤ 60
  rotate_left
  · have hno : allB xs = false := decide_eq_false fun h => h60 (by rw [← la]; exact h.1)
    rw [fromR_no hno] at hR
    obtain ⟨rfl, rfl⟩ := Prod.mk.inj hR
    obtain rfl : N = 0 := by rw [← hN]; rfl
    have HN := Lib.hid hN
    clear hno hR hN
    go_enter Tryz.func59, Tryz.ntmps59
    go_wp2_with fail
    go_ret2
    exact ⟨none, 0, rfl, Own.nil _ _ _ _ _, Below.refl _ _⟩
  · have HA := Lib.hid ha
    have LA := Lib.hid la
    have HR := Lib.hid hR
    have HN := Lib.hid hN
    clear ha la hR hN
    go_enter Tryz.func59, Tryz.ntmps59
    go_wp2_with fail
    go_loopw [4, 13] (fun a i wr => ∃ (k : Nat) (out : List Int), k ≤ n ∧ i = .int .i64 k ∧ Hid (restTo xs k) ∧ Hid (fromTo xs k = some out) ∧ Own iC 2 1 wr w.heap.size a out ∧ Below w.heap.size w wr) (fun _ i _ => n - (intOf i).toNat)
    case atStart => exact ⟨0, [], Nat.zero_le _, rfl, fun j hj hlt => absurd hlt (by omega), rfl, Own.nil _ _ _ _ _, Below.refl _ _⟩
    case round =>
      obtain ⟨k, out, hk, rfl, hto, hfr, hown, hB⟩ := hrel
      have hBs := hB.size
      by_cases hlt : k < n
      · have ka : k < xs.length := by have := LA.out; omega
        obtain ⟨b1, o1, rfl, l1, hc2⟩ := (HA.out.below hB).at iC_len LA.out ka
        have c1 : wr.cell? ⟨b1, o1 + k, none⟩ = some (.int .i64 xs[k]) := by simpa using hc2 0 _ rfl
        clear hc2
        obtain ⟨v, hv⟩ : ∃ v, inB xs[k] (-1000000000) 1000000000 = v := ⟨_, rfl⟩
        have HV := Lib.hid hv
        clear hv
        cases v
        · have hno := fromR_no (all_no ka (inB_false HV.out))
          obtain ⟨rfl, rfl⟩ := Prod.mk.inj (HR.out.symm.trans hno)
          have h0 : N = 0 := by rw [← HN.out]; rfl
          subst h0
          clear hno hown
          go_wp2_with (go_at_call 74; refine (isResidual_of HV _).mono ?_; rintro e w' ⟨rfl, rfl⟩)
          go_ret2
          exact ⟨none, 0, rfl, Own.nil _ _ _ _ _, hB⟩
        · have hxb := inB_true HV.out
          have hto2 : Hid (restTo xs (k + 1)) := rest_next hto.out ka hxb
          have hol := fromTo_len hfr.out
          have hos := fromTo_small hfr.out
          have hgb := guess_bd hos k
          have HO := Lib.hid hown
          obtain ⟨A2, c2, hv, _, _, hrd⟩ := hown.rd
          rw [hol] at hv hrd
          subst hv
          have HRD := Lib.hid hrd
          have HOL := Lib.hid hol
          have HOS := Lib.hid hos
          clear hown hrd hol hos
          go_wp2_with (go_at_call 74; refine (isResidual_of HV _).mono ?_; rintro e w' ⟨rfl, rfl⟩)
          refine (predicted_any A2 k c2 out _ HRD.out HOL.out HOS.out (by omega)).mono ?_
          rintro e w4 ⟨rfl, hb4⟩
          have HO4 := Lib.hid (HO.out.next hb4)
          have hz4 := hb4.size
          have hB4 := Below.next hB hb4
          have hcm : guessI out k + xs[k] = xs[k] + guessI out k := Int.add_comm _ _
          obtain ⟨v2, hv2⟩ : ∃ v, inB (guessI out k + xs[k]) (-125000000) 125000000 = v := ⟨_, rfl⟩
          have HV2 := Lib.hid hv2
          have hv3 : Hid (inB (xs[k] + guessI out k) (-125000000) 125000000 = v2) := by rw [Hid, ← hcm]; exact hv2
          have HCM := Lib.hid hcm
          clear hv2 hcm
          cases v2
          · have hno := fromR_none (from_bad ka hfr.out hv3.out) (by omega)
            obtain ⟨rfl, rfl⟩ := Prod.mk.inj (HR.out.symm.trans hno)
            have h0 : N = 0 := by rw [← HN.out]; rfl
            subst h0
            clear hno
            go_wp2_with (go_at_call 75; refine (isPredicted_of HV2 _).mono ?_; rintro e w' ⟨rfl, rfl⟩)
            go_ret2
            exact ⟨none, 0, rfl, Own.nil _ _ _ _ _, hB4⟩
          · have hfr2 : Hid (fromTo xs (k + 1) = some (out ++ [guessI out k + xs[k]])) := by rw [Hid, from_good ka hfr.out hv3.out, HCM.out]
            go_wp2_with (first | (go_at_call 75; refine (isPredicted_of HV2 _).mono ?_; rintro e w' ⟨rfl, rfl⟩) | ((at_builtin; refine list_push elem_int (by rfl) (.tmp 27) (.tmp 29) 55 (by rfl) Tryz.underlying55 w.heap.size _ out (guessI out k + xs[k]) (by rfl) (HO4.out.alloc _) k HOL.out w4.heap.size 1 (by rfl) (fun i u hu => by rw [(Bk.new w4 #[.int .i64 (guessI out k + xs[k])] 2).cell i]; simpa [iC] using hu) (by unfold maxLen; omega) (by omega) (by simp only [World.size_alloc]; omega) ?_; intro g5 cap5 w5 hown5 hgrow5 hat5 hlt5 hkeep5)))
            have hG : Below w.heap.size w w5 := (hB4.alloc (by omega) _).grown hgrow5 (by simp only [World.size_alloc]; omega) (fun k hk => (HO4.out.lt k hk).1)
            go_roundw
            case rel => exact ⟨k + 1, _, by omega, by go_num, hto2, hfr2, hown5, hG⟩
            case measure => simp [intOf]; omega
      · obtain rfl : k = n := by omega
        have hall := rest_all hto.out (by have := LA.out; omega)
        have hfl : fromTo xs xs.length = some out := by rw [LA.out]; exact hfr.out
        have hy := fromR_some (decide_eq_true ⟨by rw [LA.out]; exact h60, hall⟩) hfl
        obtain ⟨rfl, rfl⟩ := Prod.mk.inj (HR.out.symm.trans hy)
        have h0 : N = k := by rw [← HN.out]; exact fromTo_len hfr.out
        subst h0
        obtain ⟨A2, c2, hv, _, _, _⟩ := hown.rd
        rw [HN.out] at hv
        subst hv
        have HO := Lib.hid hown
        clear hy hall hfl hown
        go_wp2_with fail
        go_ret2
        exact ⟨A2, c2, rfl, HO.out, hB⟩

def fromV (l : List Int) : List Int × Bool := match fromTo l l.length with | some out => (out, true) | none => ([], false)
set_option maxHeartbeats 8000000 in
theorem l04From_any (A : Option Addr) (n c N : Nat) (xs V : List Int) (b : Bool) (w : World) (ha : Rd w A n 1 (rowOf iC xs)) (la : xs.length = n) (hp : restP xs) (hn : n ≤ 1048576) (hV : fromV xs = (V, b)) (hN : V.length = N) :
    Calls Tryz.prog 51 #[.slice A n c] w fun e w' => ∃ A2 c2, e = .returned (.tuple #[.slice A2 N c2, .bool b]) ∧ Own iC 2 1 w' w.heap.size (.slice A2 N c2) V ∧ Below w.heap.size w w' := by
  have HA := Lib.hid ha
  have LA := Lib.hid la
  have HP := Lib.hid hp
  have HF := Lib.hid hV
  have HN := Lib.hid hN
  clear ha la hp hV hN
  go_enter Tryz.func51, Tryz.ntmps51
  go_wp2_with fail
  go_loopw [4, 5] (fun a i wr => ∃ (k : Nat) (out : List Int), k ≤ n ∧ i = .int .i64 k ∧ Hid (fromTo xs k = some out) ∧ Own iC 2 1 wr w.heap.size a out ∧ Below w.heap.size w wr) (fun _ i _ => n - (intOf i).toNat)
  case atStart => exact ⟨0, [], Nat.zero_le _, rfl, rfl, Own.of_bk (l := []) (Bk.new w #[] 2) iC_len (by decide) (Nat.le_refl _), by go_grown⟩
  case round =>
    obtain ⟨k, out, hk, rfl, hfr, hown, hB⟩ := hrel
    have hBs := hB.size
    by_cases hlt : k < n
    · have ka : k < xs.length := by have := LA.out; omega
      have HAr := Lib.hid (HA.out.below hB)
      obtain ⟨b1, o1, rfl, l1', _⟩ := HA.out.at iC_len LA.out ka
      obtain ⟨_, _, e0, l1, hc2⟩ := HAr.out.at iC_len LA.out ka
      cases e0
      have c1 : wr.cell? ⟨b1, o1 + k, none⟩ = some (.int .i64 xs[k]) := by simpa using hc2 0 _ rfl
      have hol := fromTo_len hfr.out
      have hos := fromTo_small hfr.out
      have hgb := guess_bd hos k
      have hxb := HP.out.at ka
      have HO := Lib.hid hown
      obtain ⟨A2, c2, hv, _, _, hrd⟩ := hown.rd
      rw [hol] at hv hrd
      subst hv
      have HRD := Lib.hid hrd
      have HOL := Lib.hid hol
      have HOS := Lib.hid hos
      have hk0 : (0 : Int) ≤ (k : Int) := by omega
      have hkn : (k : Int) < (n : Int) := by omega
      have hwd : IntKind.i64.wrap (xs[k] + guessI out k) = xs[k] + guessI out k := IntWalk.i64_in _ (by omega)
      obtain ⟨v2, hv2⟩ : ∃ v, inB (xs[k] + guessI out k) (-125000000) 125000000 = v := ⟨_, rfl⟩
      have HV2 := Lib.hid hv2
      clear hown hrd hol hos hv2 hc2
      go_wp2_with fail
      refine wp_region_held_drew (S := (fun w' => (∀ kb ko, kb < wr.heap.size → w'.cell? ⟨kb, ko, none⟩ = wr.cell? ⟨kb, ko, none⟩) ∧ wr.heap.size ≤ w'.heap.size ∧ Below wr.heap.size wr w')) (by kernel_rfl) ?_ (fun hHeld => ?_)
      · (try dsimp only); exact SB.mk ((Below.refl _ _).drew)
      first | (refine take_on (i := 0) (v := ?_) rfl (by kernel_rfl) (by kernel_rfl) (by kernel_rfl) (fun _ _ _ h => h) rfl ?_ (by assumption) ?_; rotate_left; · (intro w' hSw; (try dsimp only at hSw); go_simp; (try with_reducible rfl))) | (refine take_off (i := 0) rfl (by kernel_rfl) (by kernel_rfl) (by kernel_rfl) (fun _ _ _ h => h) rfl (by assumption) ?_)
      (try simp only [Act.put, List.setIfInBounds_toArray, List.set_cons_zero, List.set_cons_succ])
      first | (refine take_on (i := 1) (v := ?_) rfl (by kernel_rfl) (by kernel_rfl) (by kernel_rfl) (fun _ _ _ h => h) rfl ?_ (by assumption) ?_; rotate_left; · (intro w' hSw; (try dsimp only at hSw); go_simp; (try with_reducible rfl))) | (refine take_off (i := 1) rfl (by kernel_rfl) (by kernel_rfl) (by kernel_rfl) (fun _ _ _ h => h) rfl (by assumption) ?_)
      (try simp only [Act.put, List.setIfInBounds_toArray, List.set_cons_zero, List.set_cons_succ])
      first | (refine take_on (i := 2) (v := ?_) rfl (by kernel_rfl) (by kernel_rfl) (by kernel_rfl) (fun _ _ _ h => h) rfl ?_ (by assumption) ?_; rotate_left; · (intro w' hSw; (try dsimp only at hSw); go_simp; (try with_reducible rfl))) | (refine take_off (i := 2) rfl (by kernel_rfl) (by kernel_rfl) (by kernel_rfl) (fun _ _ _ h => h) rfl (by assumption) ?_)
      (try simp only [Act.put, List.setIfInBounds_toArray, List.set_cons_zero, List.set_cons_succ])
      first | (refine take_on (i := 3) (v := ?_) rfl (by kernel_rfl) (by kernel_rfl) (by kernel_rfl) (fun _ _ _ h => h) rfl ?_ (by assumption) ?_; rotate_left; · (intro w' hSw; (try dsimp only at hSw); go_simp; (try with_reducible rfl))) | (refine take_off (i := 3) rfl (by kernel_rfl) (by kernel_rfl) (by kernel_rfl) (fun _ _ _ h => h) rfl (by assumption) ?_)
      (try simp only [Act.put, List.setIfInBounds_toArray, List.set_cons_zero, List.set_cons_succ])
      first | (refine take_on (i := 4) (v := ?_) rfl (by kernel_rfl) (by kernel_rfl) (by kernel_rfl) (fun _ _ _ h => h) rfl ?_ (by assumption) ?_; rotate_left; · (intro w' hSw; (try dsimp only at hSw); go_simp; (try with_reducible rfl))) | (refine take_off (i := 4) rfl (by kernel_rfl) (by kernel_rfl) (by kernel_rfl) (fun _ _ _ h => h) rfl (by assumption) ?_)
      (try simp only [Act.put, List.setIfInBounds_toArray, List.set_cons_zero, List.set_cons_succ])
      first | (refine take_on (i := 5) (v := ?_) rfl (by kernel_rfl) (by kernel_rfl) (by kernel_rfl) (fun _ _ _ h => h) rfl ?_ (by assumption) ?_; rotate_left; · (intro w' hSw; (try dsimp only at hSw); go_simp; (try with_reducible rfl))) | (refine take_off (i := 5) rfl (by kernel_rfl) (by kernel_rfl) (by kernel_rfl) (fun _ _ _ h => h) rfl (by assumption) ?_)
      (try simp only [Act.put, List.setIfInBounds_toArray, List.set_cons_zero, List.set_cons_succ])
      refine wpAnyH_ready (rs := [6]) (by kernel_rfl) (by simp) ?_
      refine AllReadyH.cons rfl (fun K hK => ?_) AllReadyH.nil
      rw [if_pos (by rfl)]
      go_simp
      go_at_call 69
      refine (l04Guess_any A2 k c2 k out _ HRD.out.drew HOL.out HOS.out (by omega) (Nat.le_refl _)).mono ?_
      rintro e w4 ⟨rfl, hb4⟩
      have hB4 : Below wr.heap.size wr w4 := Below.next (by go_grown) hb4
      refine hK.out _ _ ?_ (fun hHeld2 => ?_)
      · (try dsimp only); exact SB.mk hB4
      clear hK K hHeld; have hHeld := hHeld2; clear hHeld2; (try simp only [Act.put, List.setIfInBounds_toArray, List.set_cons_zero, List.set_cons_succ])
      first | (refine take_on (i := 7) (v := ?_) rfl (by kernel_rfl) (by kernel_rfl) (by kernel_rfl) (fun _ _ _ h => h) rfl ?_ (by assumption) ?_; rotate_left; · (intro w' hSw; (try dsimp only at hSw); go_simp; (try with_reducible rfl))) | (refine take_off (i := 7) rfl (by kernel_rfl) (by kernel_rfl) (by kernel_rfl) (fun _ _ _ h => h) rfl (by assumption) ?_)
      (try simp only [Act.put, List.setIfInBounds_toArray, List.set_cons_zero, List.set_cons_succ])
      first | (refine take_on (i := 8) (v := ?_) rfl (by kernel_rfl) (by kernel_rfl) (by kernel_rfl) (fun _ _ _ h => h) rfl ?_ (by assumption) ?_; rotate_left; · (intro w' hSw; (try dsimp only at hSw); go_simp; (try with_reducible rfl))) | (refine take_off (i := 8) rfl (by kernel_rfl) (by kernel_rfl) (by kernel_rfl) (fun _ _ _ h => h) rfl (by assumption) ?_)
      (try simp only [Act.put, List.setIfInBounds_toArray, List.set_cons_zero, List.set_cons_succ])
      refine wpAnyH_done (by kernel_rfl) ?_ _
      clear hHeld hwd
      have HO4 := Lib.hid (HO.out.next hB4)
      have hz4 := hB4.size
      have hB5 := Below.next hB hB4
      cases v2
      · have hno : fromV xs = ([], false) := by rw [fromV, fromTo_no (from_bad ka hfr.out HV2.out) (by omega)]
        obtain ⟨rfl, rfl⟩ := Prod.mk.inj (HF.out.symm.trans hno)
        have h0 : N = 0 := by rw [← HN.out]; rfl
        subst h0
        clear hno
        go_wp2_with (go_at_call 53; refine (l00In_hid HV2 _).mono ?_; rintro e w' ⟨rfl, rfl⟩)
        go_ret2
        exact ⟨none, 0, rfl, Own.nil _ _ _ _ _, hB5⟩
      · have hfr2 : Hid (fromTo xs (k + 1) = some (out ++ [xs[k] + guessI out k])) := from_good ka hfr.out HV2.out
        go_wp2_with (first | (go_at_call 53; refine (l00In_hid HV2 _).mono ?_; rintro e w' ⟨rfl, rfl⟩) | ((at_builtin; refine list_push elem_int (by rfl) (.tmp 25) (.tmp 27) 55 (by rfl) Tryz.underlying55 w.heap.size _ out (xs[k] + guessI out k) (by rfl) (HO4.out.alloc _) k HOL.out w4.heap.size 1 (by rfl) (fun i u hu => by rw [(Bk.new w4 #[.int .i64 (xs[k] + guessI out k)] 2).cell i]; simpa [iC] using hu) (by unfold maxLen; omega) (by omega) (by simp only [World.size_alloc]; omega) ?_; intro g5 cap5 w5 hown5 hgrow5 hat5 hlt5 hkeep5)))
        have hG : Below w.heap.size w w5 := (hB5.alloc (by omega) _).grown hgrow5 (by simp only [World.size_alloc]; omega) (fun k hk => (HO4.out.lt k hk).1)
        go_roundw
        case rel => exact ⟨k + 1, _, by omega, by go_num, hfr2, hown5, hG⟩
        case measure => simp [intOf]; omega
    · obtain rfl : k = n := by omega
      have hy : fromV xs = (out, true) := by rw [fromV, LA.out, hfr.out]
      obtain ⟨rfl, rfl⟩ := Prod.mk.inj (HF.out.symm.trans hy)
      obtain ⟨A2, c2, hv, _, _, _⟩ := hown.rd
      rw [HN.out] at hv
      subst hv
      have HO := Lib.hid hown
      clear hown hy
      go_wp2_with fail
      go_ret2
      exact ⟨A2, c2, rfl, HO.out, hB⟩

end Go.Proofs.YtinlhigpmchiaaaGreatDoor
