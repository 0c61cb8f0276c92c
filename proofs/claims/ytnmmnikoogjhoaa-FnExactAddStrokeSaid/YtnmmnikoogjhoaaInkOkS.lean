/-
  An ink is valid: the reference asks the same of one in memory.
-/
import Derived.Test.YtnmmnikoogjhoaaInkOk
namespace Go.Proofs.Ytnmmnikoogjhoaa
set_option linter.unusedSimpArgs false
set_option linter.unusedVariables false
set_option maxRecDepth 20000
open Go.RowKit
open Go.ChangeShapes Go.WideShapes Go.Deep Go.Joins

set_option maxHeartbeats 8000000 in
theorem l02Ok_any (b o : Nat) (A : Option Addr) (n c : Nat) (S : List St) (w : World) (hcell : w.cell? ⟨b, o, none⟩ = some (.slice A n c)) (h : InkRd w A n S) (hs : ∀ s ∈ S, s.l.length ≤ 1048576) (hn : n ≤ 1048576) :
    Calls Try.prog 41 #[.pointer (some ⟨b, o, none⟩)] w fun e w' => e = .returned (.bool (inkB (ptsOf S))) ∧ Below w.heap.size w w' := by
  have HA := Lib.hid h
  have LA := Lib.hid h.len
  clear h
  have hcb : b < w.heap.size := block_lt_of_cell hcell
  go_enter Try.func41, Try.ntmps41
  go_wp2_with fail
  go_loopw [3] (fun i wr => ∃ k : Nat, k ≤ n ∧ i = .int .i64 k ∧ Hid (ikTo S k) ∧ Below w.heap.size w wr) (fun i _ => n - (intOf i).toNat)
  case atStart => exact ⟨0, Nat.zero_le _, rfl, fun j h hlt => absurd hlt (by omega), Below.refl _ _⟩
  case round =>
    obtain ⟨k, hk, rfl, hto, hB⟩ := hrel
    have hcs : wr.cell? ⟨b, o, none⟩ = some (.slice A n c) := (hB.cell (p := ⟨b, o, none⟩) hcb).trans hcell
    have hcb2 : b < wr.heap.size := Nat.lt_of_lt_of_le hcb hB.size
    have hW := hB
    by_cases hlt : k < n
    · have ka : k < S.length := by have := LA.out; omega
      obtain ⟨b1, o1, rfl, l1, c1, p1⟩ := (HA.out.below hW).at ka
      have hsl := hs _ (List.getElem_mem ka)
      have P1 := Lib.hid p1
      cases e1 : strB S[k].l
      · have hno : Hid (ikAll (ptsOf S) = false) := ikAll_str ka e1
        have E1 : Hid (strB S[k].l = false) := e1
        have c1d : wr.drew.cell? ⟨b1, o1 + k, none⟩ = some (.slice S[k].A S[k].l.length S[k].c) := c1
        clear e1
        go_wp2_with fail
        refine wp_region_held_drew (S := (fun w' => (∀ kb ko, kb < wr.heap.size → w'.cell? ⟨kb, ko, none⟩ = wr.cell? ⟨kb, ko, none⟩) ∧ wr.heap.size ≤ w'.heap.size ∧ Below wr.heap.size wr w')) (by kernel_rfl) ?_ (fun hHeld => ?_)
        · (try dsimp only); (first | exact SB.mk hkB | exact SB.mk ((Below.refl _ _).drew) | (go_split_ands; refine SB.mk (Below.drew ?_); assumption) | (refine SB.mk ?_; go_grown; done) | (go_split_ands; refine SB.mk ?_; go_grown; done))
        first | (refine take_on (i := 0) (v := ?_) rfl (by kernel_rfl) (by kernel_rfl) (by kernel_rfl) (fun _ _ _ h => h) rfl ?_ (by assumption) ?_; rotate_left; · (intro w' hSw; (try dsimp only at hSw); go_simp; (try with_reducible rfl))) | (refine take_off (i := 0) rfl (by kernel_rfl) (by kernel_rfl) (by kernel_rfl) (fun _ _ _ h => h) rfl (by assumption) ?_)
        (try simp only [Act.put, List.setIfInBounds_toArray, List.set_cons_zero, List.set_cons_succ])
        first | (refine take_on (i := 1) (v := ?_) rfl (by kernel_rfl) (by kernel_rfl) (by kernel_rfl) (fun _ _ _ h => h) rfl ?_ (by assumption) ?_; rotate_left; · (intro w' hSw; (try dsimp only at hSw); go_simp; (try with_reducible rfl))) | (refine take_off (i := 1) rfl (by kernel_rfl) (by kernel_rfl) (by kernel_rfl) (fun _ _ _ h => h) rfl (by assumption) ?_)
        (try simp only [Act.put, List.setIfInBounds_toArray, List.set_cons_zero, List.set_cons_succ])
        first | (refine take_on (i := 2) (v := ?_) rfl (by kernel_rfl) (by kernel_rfl) (by kernel_rfl) (fun _ _ _ h => h) rfl ?_ (by assumption) ?_; rotate_left; · (intro w' hSw; (try dsimp only at hSw); go_simp; (try with_reducible rfl))) | (refine take_off (i := 2) rfl (by kernel_rfl) (by kernel_rfl) (by kernel_rfl) (fun _ _ _ h => h) rfl (by assumption) ?_)
        (try simp only [Act.put, List.setIfInBounds_toArray, List.set_cons_zero, List.set_cons_succ])
        first | (refine take_on (i := 3) (v := ?_) rfl (by kernel_rfl) (by kernel_rfl) (by kernel_rfl) (fun _ _ _ h => h) rfl ?_ (by assumption) ?_; rotate_left; · (intro w' hSw; (try dsimp only at hSw); go_simp; (try with_reducible rfl))) | (refine take_off (i := 3) rfl (by kernel_rfl) (by kernel_rfl) (by kernel_rfl) (fun _ _ _ h => h) rfl (by assumption) ?_)
        (try simp only [Act.put, List.setIfInBounds_toArray, List.set_cons_zero, List.set_cons_succ])
        first | (refine take_on (i := 4) (v := ?_) rfl (by kernel_rfl) (by kernel_rfl) (by kernel_rfl) (fun _ _ _ h => h) rfl ?_ (by assumption) ?_; rotate_left; · (intro w' hSw; (try dsimp only at hSw); go_simp; (try with_reducible rfl))) | (refine take_off (i := 4) rfl (by kernel_rfl) (by kernel_rfl) (by kernel_rfl) (fun _ _ _ h => h) rfl (by assumption) ?_)
        (try simp only [Act.put, List.setIfInBounds_toArray, List.set_cons_zero, List.set_cons_succ])
        first | (refine take_on (i := 5) (v := ?_) rfl (by kernel_rfl) (by kernel_rfl) (by kernel_rfl) (fun _ _ _ h => h) rfl ?_ (by assumption) ?_; rotate_left; · (intro w' hSw; (try dsimp only at hSw); go_simp; (try with_reducible rfl))) | (refine take_off (i := 5) rfl (by kernel_rfl) (by kernel_rfl) (by kernel_rfl) (fun _ _ _ h => h) rfl (by assumption) ?_)
        (try simp only [Act.put, List.setIfInBounds_toArray, List.set_cons_zero, List.set_cons_succ])
        refine wpAnyH_ready (rs := [6]) (by kernel_rfl) (by simp) ?_
        refine AllReadyH.cons rfl (fun K hK => ?_) AllReadyH.nil
        rw [if_pos (by rfl)]
        go_simp
        first | (go_at_call 64; (with_reducible refine (l02Stroke_of E1 _ (by first | exact c1 | exact c1d) (by first | exact P1.out | exact P1.out.drew) rfl hsl).mono ?_); rintro e w' ⟨rfl, hb⟩; obtain ⟨_, hks, hkB⟩ := SB.next (by assumption) hb; obtain ⟨hkc, hkf⟩ := bcell hb; have hkz := hb.size; (try simp only [World.size_alloc, World.size_drew] at hkz); (first | (have hkt := Nat.lt_of_succ_le hkz) | (have hkt := Nat.lt_of_lt_of_le (by assumption) hkz) | skip); clear hb)
        refine hK.out _ _ ?_ (fun hHeld2 => ?_)
        · (try dsimp only); (first | exact SB.mk hkB | exact SB.mk ((Below.refl _ _).drew) | (go_split_ands; refine SB.mk (Below.drew ?_); assumption) | (refine SB.mk ?_; go_grown; done) | (go_split_ands; refine SB.mk ?_; go_grown; done))
        clear hK K hHeld; have hHeld := hHeld2; clear hHeld2; (try simp only [Act.put, List.setIfInBounds_toArray, List.set_cons_zero, List.set_cons_succ])
        first | (refine take_on (i := 7) (v := ?_) rfl (by kernel_rfl) (by kernel_rfl) (by kernel_rfl) (fun _ _ _ h => h) rfl ?_ (by assumption) ?_; rotate_left; · (intro w' hSw; (try dsimp only at hSw); go_simp; (try with_reducible rfl))) | (refine take_off (i := 7) rfl (by kernel_rfl) (by kernel_rfl) (by kernel_rfl) (fun _ _ _ h => h) rfl (by assumption) ?_)
        (try simp only [Act.put, List.setIfInBounds_toArray, List.set_cons_zero, List.set_cons_succ])
        first | (refine take_on (i := 8) (v := ?_) rfl (by kernel_rfl) (by kernel_rfl) (by kernel_rfl) (fun _ _ _ h => h) rfl ?_ (by assumption) ?_; rotate_left; · (intro w' hSw; (try dsimp only at hSw); go_simp; (try with_reducible rfl))) | (refine take_off (i := 8) rfl (by kernel_rfl) (by kernel_rfl) (by kernel_rfl) (fun _ _ _ h => h) rfl (by assumption) ?_)
        (try simp only [Act.put, List.setIfInBounds_toArray, List.set_cons_zero, List.set_cons_succ])
        first | (refine take_on (i := 9) (v := ?_) rfl (by kernel_rfl) (by kernel_rfl) (by kernel_rfl) (fun _ _ _ h => h) rfl ?_ (by assumption) ?_; rotate_left; · (intro w' hSw; (try dsimp only at hSw); go_simp; (try with_reducible rfl))) | (refine take_off (i := 9) rfl (by kernel_rfl) (by kernel_rfl) (by kernel_rfl) (fun _ _ _ h => h) rfl (by assumption) ?_)
        (try simp only [Act.put, List.setIfInBounds_toArray, List.set_cons_zero, List.set_cons_succ])
        first | (refine take_on (i := 10) (v := ?_) rfl (by kernel_rfl) (by kernel_rfl) (by kernel_rfl) (fun _ _ _ h => h) rfl ?_ (by assumption) ?_; rotate_left; · (intro w' hSw; (try dsimp only at hSw); go_simp; (try with_reducible rfl))) | (refine take_off (i := 10) rfl (by kernel_rfl) (by kernel_rfl) (by kernel_rfl) (fun _ _ _ h => h) rfl (by assumption) ?_)
        (try simp only [Act.put, List.setIfInBounds_toArray, List.set_cons_zero, List.set_cons_succ])
        first | (refine take_on (i := 11) (v := ?_) rfl (by kernel_rfl) (by kernel_rfl) (by kernel_rfl) (fun _ _ _ h => h) rfl ?_ (by assumption) ?_; rotate_left; · (intro w' hSw; (try dsimp only at hSw); go_simp; (try with_reducible rfl))) | (refine take_off (i := 11) rfl (by kernel_rfl) (by kernel_rfl) (by kernel_rfl) (fun _ _ _ h => h) rfl (by assumption) ?_)
        (try simp only [Act.put, List.setIfInBounds_toArray, List.set_cons_zero, List.set_cons_succ])
        first | (refine take_on (i := 12) (v := ?_) rfl (by kernel_rfl) (by kernel_rfl) (by kernel_rfl) (fun _ _ _ h => h) rfl ?_ (by assumption) ?_; rotate_left; · (intro w' hSw; (try dsimp only at hSw); go_simp; (try with_reducible rfl))) | (refine take_off (i := 12) rfl (by kernel_rfl) (by kernel_rfl) (by kernel_rfl) (fun _ _ _ h => h) rfl (by assumption) ?_)
        (try simp only [Act.put, List.setIfInBounds_toArray, List.set_cons_zero, List.set_cons_succ])
        first | (refine take_on (i := 13) (v := ?_) rfl (by kernel_rfl) (by kernel_rfl) (by kernel_rfl) (fun _ _ _ h => h) rfl ?_ (by assumption) ?_; rotate_left; · (intro w' hSw; (try dsimp only at hSw); go_simp; (try with_reducible rfl))) | (refine take_off (i := 13) rfl (by kernel_rfl) (by kernel_rfl) (by kernel_rfl) (fun _ _ _ h => h) rfl (by assumption) ?_)
        (try simp only [Act.put, List.setIfInBounds_toArray, List.set_cons_zero, List.set_cons_succ])
        first | (refine take_on (i := 14) (v := ?_) rfl (by kernel_rfl) (by kernel_rfl) (by kernel_rfl) (fun _ _ _ h => h) rfl ?_ (by assumption) ?_; rotate_left; · (intro w' hSw; (try dsimp only at hSw); go_simp; (try with_reducible rfl))) | (refine take_off (i := 14) rfl (by kernel_rfl) (by kernel_rfl) (by kernel_rfl) (fun _ _ _ h => h) rfl (by assumption) ?_)
        (try simp only [Act.put, List.setIfInBounds_toArray, List.set_cons_zero, List.set_cons_succ])
        first | (refine take_on (i := 15) (v := ?_) rfl (by kernel_rfl) (by kernel_rfl) (by kernel_rfl) (fun _ _ _ h => h) rfl ?_ (by assumption) ?_; rotate_left; · (intro w' hSw; (try dsimp only at hSw); go_simp; (try with_reducible rfl))) | (refine take_off (i := 15) rfl (by kernel_rfl) (by kernel_rfl) (by kernel_rfl) (fun _ _ _ h => h) rfl (by assumption) ?_)
        (try simp only [Act.put, List.setIfInBounds_toArray, List.set_cons_zero, List.set_cons_succ])
        first | (refine take_on (i := 16) (v := ?_) rfl (by kernel_rfl) (by kernel_rfl) (by kernel_rfl) (fun _ _ _ h => h) rfl ?_ (by assumption) ?_; rotate_left; · (intro w' hSw; (try dsimp only at hSw); go_simp; (try with_reducible rfl))) | (refine take_off (i := 16) rfl (by kernel_rfl) (by kernel_rfl) (by kernel_rfl) (fun _ _ _ h => h) rfl (by assumption) ?_)
        (try simp only [Act.put, List.setIfInBounds_toArray, List.set_cons_zero, List.set_cons_succ])
        first | (refine take_on (i := 17) (v := ?_) rfl (by kernel_rfl) (by kernel_rfl) (by kernel_rfl) (fun _ _ _ h => h) rfl ?_ (by assumption) ?_; rotate_left; · (intro w' hSw; (try dsimp only at hSw); go_simp; (try with_reducible rfl))) | (refine take_off (i := 17) rfl (by kernel_rfl) (by kernel_rfl) (by kernel_rfl) (fun _ _ _ h => h) rfl (by assumption) ?_)
        (try simp only [Act.put, List.setIfInBounds_toArray, List.set_cons_zero, List.set_cons_succ])
        first | (refine take_on (i := 18) (v := ?_) rfl (by kernel_rfl) (by kernel_rfl) (by kernel_rfl) (fun _ _ _ h => h) rfl ?_ (by assumption) ?_; rotate_left; · (intro w' hSw; (try dsimp only at hSw); go_simp; (try with_reducible rfl))) | (refine take_off (i := 18) rfl (by kernel_rfl) (by kernel_rfl) (by kernel_rfl) (fun _ _ _ h => h) rfl (by assumption) ?_)
        (try simp only [Act.put, List.setIfInBounds_toArray, List.set_cons_zero, List.set_cons_succ])
        first | (refine take_on (i := 19) (v := ?_) rfl (by kernel_rfl) (by kernel_rfl) (by kernel_rfl) (fun _ _ _ h => h) rfl ?_ (by assumption) ?_; rotate_left; · (intro w' hSw; (try dsimp only at hSw); go_simp; (try with_reducible rfl))) | (refine take_off (i := 19) rfl (by kernel_rfl) (by kernel_rfl) (by kernel_rfl) (fun _ _ _ h => h) rfl (by assumption) ?_)
        (try simp only [Act.put, List.setIfInBounds_toArray, List.set_cons_zero, List.set_cons_succ])
        first | (refine take_on (i := 20) (v := ?_) rfl (by kernel_rfl) (by kernel_rfl) (by kernel_rfl) (fun _ _ _ h => h) rfl ?_ (by assumption) ?_; rotate_left; · (intro w' hSw; (try dsimp only at hSw); go_simp; (try with_reducible rfl))) | (refine take_off (i := 20) rfl (by kernel_rfl) (by kernel_rfl) (by kernel_rfl) (fun _ _ _ h => h) rfl (by assumption) ?_)
        (try simp only [Act.put, List.setIfInBounds_toArray, List.set_cons_zero, List.set_cons_succ])
        first | (refine take_on (i := 21) (v := ?_) rfl (by kernel_rfl) (by kernel_rfl) (by kernel_rfl) (fun _ _ _ h => h) rfl ?_ (by assumption) ?_; rotate_left; · (intro w' hSw; (try dsimp only at hSw); go_simp; (try with_reducible rfl))) | (refine take_off (i := 21) rfl (by kernel_rfl) (by kernel_rfl) (by kernel_rfl) (fun _ _ _ h => h) rfl (by assumption) ?_)
        (try simp only [Act.put, List.setIfInBounds_toArray, List.set_cons_zero, List.set_cons_succ])
        first | (refine take_on (i := 22) (v := ?_) rfl (by kernel_rfl) (by kernel_rfl) (by kernel_rfl) (fun _ _ _ h => h) rfl ?_ (by assumption) ?_; rotate_left; · (intro w' hSw; (try dsimp only at hSw); go_simp; (try with_reducible rfl))) | (refine take_off (i := 22) rfl (by kernel_rfl) (by kernel_rfl) (by kernel_rfl) (fun _ _ _ h => h) rfl (by assumption) ?_)
        (try simp only [Act.put, List.setIfInBounds_toArray, List.set_cons_zero, List.set_cons_succ])
        first | (refine take_on (i := 23) (v := ?_) rfl (by kernel_rfl) (by kernel_rfl) (by kernel_rfl) (fun _ _ _ h => h) rfl ?_ (by assumption) ?_; rotate_left; · (intro w' hSw; (try dsimp only at hSw); go_simp; (try with_reducible rfl))) | (refine take_off (i := 23) rfl (by kernel_rfl) (by kernel_rfl) (by kernel_rfl) (fun _ _ _ h => h) rfl (by assumption) ?_)
        (try simp only [Act.put, List.setIfInBounds_toArray, List.set_cons_zero, List.set_cons_succ])
        first | (refine take_on (i := 24) (v := ?_) rfl (by kernel_rfl) (by kernel_rfl) (by kernel_rfl) (fun _ _ _ h => h) rfl ?_ (by assumption) ?_; rotate_left; · (intro w' hSw; (try dsimp only at hSw); go_simp; (try with_reducible rfl))) | (refine take_off (i := 24) rfl (by kernel_rfl) (by kernel_rfl) (by kernel_rfl) (fun _ _ _ h => h) rfl (by assumption) ?_)
        (try simp only [Act.put, List.setIfInBounds_toArray, List.set_cons_zero, List.set_cons_succ])
        first | (refine take_on (i := 25) (v := ?_) rfl (by kernel_rfl) (by kernel_rfl) (by kernel_rfl) (fun _ _ _ h => h) rfl ?_ (by assumption) ?_; rotate_left; · (intro w' hSw; (try dsimp only at hSw); go_simp; (try with_reducible rfl))) | (refine take_off (i := 25) rfl (by kernel_rfl) (by kernel_rfl) (by kernel_rfl) (fun _ _ _ h => h) rfl (by assumption) ?_)
        (try simp only [Act.put, List.setIfInBounds_toArray, List.set_cons_zero, List.set_cons_succ])
        first | (refine take_on (i := 26) (v := ?_) rfl (by kernel_rfl) (by kernel_rfl) (by kernel_rfl) (fun _ _ _ h => h) rfl ?_ (by assumption) ?_; rotate_left; · (intro w' hSw; (try dsimp only at hSw); go_simp; (try with_reducible rfl))) | (refine take_off (i := 26) rfl (by kernel_rfl) (by kernel_rfl) (by kernel_rfl) (fun _ _ _ h => h) rfl (by assumption) ?_)
        (try simp only [Act.put, List.setIfInBounds_toArray, List.set_cons_zero, List.set_cons_succ])
        first | (refine take_on (i := 27) (v := ?_) rfl (by kernel_rfl) (by kernel_rfl) (by kernel_rfl) (fun _ _ _ h => h) rfl ?_ (by assumption) ?_; rotate_left; · (intro w' hSw; (try dsimp only at hSw); go_simp; (try with_reducible rfl))) | (refine take_off (i := 27) rfl (by kernel_rfl) (by kernel_rfl) (by kernel_rfl) (fun _ _ _ h => h) rfl (by assumption) ?_)
        (try simp only [Act.put, List.setIfInBounds_toArray, List.set_cons_zero, List.set_cons_succ])
        first | (refine take_on (i := 28) (v := ?_) rfl (by kernel_rfl) (by kernel_rfl) (by kernel_rfl) (fun _ _ _ h => h) rfl ?_ (by assumption) ?_; rotate_left; · (intro w' hSw; (try dsimp only at hSw); go_simp; (try with_reducible rfl))) | (refine take_off (i := 28) rfl (by kernel_rfl) (by kernel_rfl) (by kernel_rfl) (fun _ _ _ h => h) rfl (by assumption) ?_)
        (try simp only [Act.put, List.setIfInBounds_toArray, List.set_cons_zero, List.set_cons_succ])
        first | (refine take_on (i := 29) (v := ?_) rfl (by kernel_rfl) (by kernel_rfl) (by kernel_rfl) (fun _ _ _ h => h) rfl ?_ (by assumption) ?_; rotate_left; · (intro w' hSw; (try dsimp only at hSw); go_simp; (try with_reducible rfl))) | (refine take_off (i := 29) rfl (by kernel_rfl) (by kernel_rfl) (by kernel_rfl) (fun _ _ _ h => h) rfl (by assumption) ?_)
        (try simp only [Act.put, List.setIfInBounds_toArray, List.set_cons_zero, List.set_cons_succ])
        first | (refine take_on (i := 30) (v := ?_) rfl (by kernel_rfl) (by kernel_rfl) (by kernel_rfl) (fun _ _ _ h => h) rfl ?_ (by assumption) ?_; rotate_left; · (intro w' hSw; (try dsimp only at hSw); go_simp; (try with_reducible rfl))) | (refine take_off (i := 30) rfl (by kernel_rfl) (by kernel_rfl) (by kernel_rfl) (fun _ _ _ h => h) rfl (by assumption) ?_)
        (try simp only [Act.put, List.setIfInBounds_toArray, List.set_cons_zero, List.set_cons_succ])
        first | (refine take_on (i := 31) (v := ?_) rfl (by kernel_rfl) (by kernel_rfl) (by kernel_rfl) (fun _ _ _ h => h) rfl ?_ (by assumption) ?_; rotate_left; · (intro w' hSw; (try dsimp only at hSw); go_simp; (try with_reducible rfl))) | (refine take_off (i := 31) rfl (by kernel_rfl) (by kernel_rfl) (by kernel_rfl) (fun _ _ _ h => h) rfl (by assumption) ?_)
        (try simp only [Act.put, List.setIfInBounds_toArray, List.set_cons_zero, List.set_cons_succ])
        first | (refine take_on (i := 32) (v := ?_) rfl (by kernel_rfl) (by kernel_rfl) (by kernel_rfl) (fun _ _ _ h => h) rfl ?_ (by assumption) ?_; rotate_left; · (intro w' hSw; (try dsimp only at hSw); go_simp; (try with_reducible rfl))) | (refine take_off (i := 32) rfl (by kernel_rfl) (by kernel_rfl) (by kernel_rfl) (fun _ _ _ h => h) rfl (by assumption) ?_)
        (try simp only [Act.put, List.setIfInBounds_toArray, List.set_cons_zero, List.set_cons_succ])
        first | (refine take_on (i := 33) (v := ?_) rfl (by kernel_rfl) (by kernel_rfl) (by kernel_rfl) (fun _ _ _ h => h) rfl ?_ (by assumption) ?_; rotate_left; · (intro w' hSw; (try dsimp only at hSw); go_simp; (try with_reducible rfl))) | (refine take_off (i := 33) rfl (by kernel_rfl) (by kernel_rfl) (by kernel_rfl) (fun _ _ _ h => h) rfl (by assumption) ?_)
        (try simp only [Act.put, List.setIfInBounds_toArray, List.set_cons_zero, List.set_cons_succ])
        refine wpAnyH_done (by kernel_rfl) ?_ _
        go_split_ands
        go_wp2_with fail
        go_ret
        exact ⟨ret_bool (inkB_no hno.out), Below.next hB (by assumption)⟩
      · have E1 : Hid (strB S[k].l = true) := e1
        rcases k with _ | j
        · have hto2 : Hid (ikTo S 1) := ikTo_next0 ka e1
          clear e1
          simp only [Nat.add_zero] at c1
          have c1d : wr.drew.cell? ⟨b1, o1, none⟩ = some (.slice S[0].A S[0].l.length S[0].c) := c1
          go_wp2_with fail
          refine wp_region_held_drew (S := (fun w' => (∀ kb ko, kb < wr.heap.size → w'.cell? ⟨kb, ko, none⟩ = wr.cell? ⟨kb, ko, none⟩) ∧ wr.heap.size ≤ w'.heap.size ∧ Below wr.heap.size wr w')) (by kernel_rfl) ?_ (fun hHeld => ?_)
          · (try dsimp only); (first | exact SB.mk hkB | exact SB.mk ((Below.refl _ _).drew) | (go_split_ands; refine SB.mk (Below.drew ?_); assumption) | (refine SB.mk ?_; go_grown; done) | (go_split_ands; refine SB.mk ?_; go_grown; done))
          first | (refine take_on (i := 0) (v := ?_) rfl (by kernel_rfl) (by kernel_rfl) (by kernel_rfl) (fun _ _ _ h => h) rfl ?_ (by assumption) ?_; rotate_left; · (intro w' hSw; (try dsimp only at hSw); go_simp; (try with_reducible rfl))) | (refine take_off (i := 0) rfl (by kernel_rfl) (by kernel_rfl) (by kernel_rfl) (fun _ _ _ h => h) rfl (by assumption) ?_)
          (try simp only [Act.put, List.setIfInBounds_toArray, List.set_cons_zero, List.set_cons_succ])
          first | (refine take_on (i := 1) (v := ?_) rfl (by kernel_rfl) (by kernel_rfl) (by kernel_rfl) (fun _ _ _ h => h) rfl ?_ (by assumption) ?_; rotate_left; · (intro w' hSw; (try dsimp only at hSw); go_simp; (try with_reducible rfl))) | (refine take_off (i := 1) rfl (by kernel_rfl) (by kernel_rfl) (by kernel_rfl) (fun _ _ _ h => h) rfl (by assumption) ?_)
          (try simp only [Act.put, List.setIfInBounds_toArray, List.set_cons_zero, List.set_cons_succ])
          first | (refine take_on (i := 2) (v := ?_) rfl (by kernel_rfl) (by kernel_rfl) (by kernel_rfl) (fun _ _ _ h => h) rfl ?_ (by assumption) ?_; rotate_left; · (intro w' hSw; (try dsimp only at hSw); go_simp; (try with_reducible rfl))) | (refine take_off (i := 2) rfl (by kernel_rfl) (by kernel_rfl) (by kernel_rfl) (fun _ _ _ h => h) rfl (by assumption) ?_)
          (try simp only [Act.put, List.setIfInBounds_toArray, List.set_cons_zero, List.set_cons_succ])
          first | (refine take_on (i := 3) (v := ?_) rfl (by kernel_rfl) (by kernel_rfl) (by kernel_rfl) (fun _ _ _ h => h) rfl ?_ (by assumption) ?_; rotate_left; · (intro w' hSw; (try dsimp only at hSw); go_simp; (try with_reducible rfl))) | (refine take_off (i := 3) rfl (by kernel_rfl) (by kernel_rfl) (by kernel_rfl) (fun _ _ _ h => h) rfl (by assumption) ?_)
          (try simp only [Act.put, List.setIfInBounds_toArray, List.set_cons_zero, List.set_cons_succ])
          first | (refine take_on (i := 4) (v := ?_) rfl (by kernel_rfl) (by kernel_rfl) (by kernel_rfl) (fun _ _ _ h => h) rfl ?_ (by assumption) ?_; rotate_left; · (intro w' hSw; (try dsimp only at hSw); go_simp; (try with_reducible rfl))) | (refine take_off (i := 4) rfl (by kernel_rfl) (by kernel_rfl) (by kernel_rfl) (fun _ _ _ h => h) rfl (by assumption) ?_)
          (try simp only [Act.put, List.setIfInBounds_toArray, List.set_cons_zero, List.set_cons_succ])
          first | (refine take_on (i := 5) (v := ?_) rfl (by kernel_rfl) (by kernel_rfl) (by kernel_rfl) (fun _ _ _ h => h) rfl ?_ (by assumption) ?_; rotate_left; · (intro w' hSw; (try dsimp only at hSw); go_simp; (try with_reducible rfl))) | (refine take_off (i := 5) rfl (by kernel_rfl) (by kernel_rfl) (by kernel_rfl) (fun _ _ _ h => h) rfl (by assumption) ?_)
          (try simp only [Act.put, List.setIfInBounds_toArray, List.set_cons_zero, List.set_cons_succ])
          refine wpAnyH_ready (rs := [6]) (by kernel_rfl) (by simp) ?_
          refine AllReadyH.cons rfl (fun K hK => ?_) AllReadyH.nil
          rw [if_pos (by rfl)]
          go_simp
          first | (go_at_call 64; (with_reducible refine (l02Stroke_of E1 _ (by first | exact c1 | exact c1d) (by first | exact P1.out | exact P1.out.drew) rfl hsl).mono ?_); rintro e w' ⟨rfl, hb⟩; obtain ⟨_, hks, hkB⟩ := SB.next (by assumption) hb; obtain ⟨hkc, hkf⟩ := bcell hb; have hkz := hb.size; (try simp only [World.size_alloc, World.size_drew] at hkz); (first | (have hkt := Nat.lt_of_succ_le hkz) | (have hkt := Nat.lt_of_lt_of_le (by assumption) hkz) | skip); clear hb)
          refine hK.out _ _ ?_ (fun hHeld2 => ?_)
          · (try dsimp only); (first | exact SB.mk hkB | exact SB.mk ((Below.refl _ _).drew) | (go_split_ands; refine SB.mk (Below.drew ?_); assumption) | (refine SB.mk ?_; go_grown; done) | (go_split_ands; refine SB.mk ?_; go_grown; done))
          clear hK K hHeld; have hHeld := hHeld2; clear hHeld2; (try simp only [Act.put, List.setIfInBounds_toArray, List.set_cons_zero, List.set_cons_succ])
          first | (refine take_on (i := 7) (v := ?_) rfl (by kernel_rfl) (by kernel_rfl) (by kernel_rfl) (fun _ _ _ h => h) rfl ?_ (by assumption) ?_; rotate_left; · (intro w' hSw; (try dsimp only at hSw); go_simp; (try with_reducible rfl))) | (refine take_off (i := 7) rfl (by kernel_rfl) (by kernel_rfl) (by kernel_rfl) (fun _ _ _ h => h) rfl (by assumption) ?_)
          (try simp only [Act.put, List.setIfInBounds_toArray, List.set_cons_zero, List.set_cons_succ])
          first | (refine take_on (i := 8) (v := ?_) rfl (by kernel_rfl) (by kernel_rfl) (by kernel_rfl) (fun _ _ _ h => h) rfl ?_ (by assumption) ?_; rotate_left; · (intro w' hSw; (try dsimp only at hSw); go_simp; (try with_reducible rfl))) | (refine take_off (i := 8) rfl (by kernel_rfl) (by kernel_rfl) (by kernel_rfl) (fun _ _ _ h => h) rfl (by assumption) ?_)
          (try simp only [Act.put, List.setIfInBounds_toArray, List.set_cons_zero, List.set_cons_succ])
          first | (refine take_on (i := 9) (v := ?_) rfl (by kernel_rfl) (by kernel_rfl) (by kernel_rfl) (fun _ _ _ h => h) rfl ?_ (by assumption) ?_; rotate_left; · (intro w' hSw; (try dsimp only at hSw); go_simp; (try with_reducible rfl))) | (refine take_off (i := 9) rfl (by kernel_rfl) (by kernel_rfl) (by kernel_rfl) (fun _ _ _ h => h) rfl (by assumption) ?_)
          (try simp only [Act.put, List.setIfInBounds_toArray, List.set_cons_zero, List.set_cons_succ])
          first | (refine take_on (i := 10) (v := ?_) rfl (by kernel_rfl) (by kernel_rfl) (by kernel_rfl) (fun _ _ _ h => h) rfl ?_ (by assumption) ?_; rotate_left; · (intro w' hSw; (try dsimp only at hSw); go_simp; (try with_reducible rfl))) | (refine take_off (i := 10) rfl (by kernel_rfl) (by kernel_rfl) (by kernel_rfl) (fun _ _ _ h => h) rfl (by assumption) ?_)
          (try simp only [Act.put, List.setIfInBounds_toArray, List.set_cons_zero, List.set_cons_succ])
          first | (refine take_on (i := 11) (v := ?_) rfl (by kernel_rfl) (by kernel_rfl) (by kernel_rfl) (fun _ _ _ h => h) rfl ?_ (by assumption) ?_; rotate_left; · (intro w' hSw; (try dsimp only at hSw); go_simp; (try with_reducible rfl))) | (refine take_off (i := 11) rfl (by kernel_rfl) (by kernel_rfl) (by kernel_rfl) (fun _ _ _ h => h) rfl (by assumption) ?_)
          (try simp only [Act.put, List.setIfInBounds_toArray, List.set_cons_zero, List.set_cons_succ])
          first | (refine take_on (i := 12) (v := ?_) rfl (by kernel_rfl) (by kernel_rfl) (by kernel_rfl) (fun _ _ _ h => h) rfl ?_ (by assumption) ?_; rotate_left; · (intro w' hSw; (try dsimp only at hSw); go_simp; (try with_reducible rfl))) | (refine take_off (i := 12) rfl (by kernel_rfl) (by kernel_rfl) (by kernel_rfl) (fun _ _ _ h => h) rfl (by assumption) ?_)
          (try simp only [Act.put, List.setIfInBounds_toArray, List.set_cons_zero, List.set_cons_succ])
          first | (refine take_on (i := 13) (v := ?_) rfl (by kernel_rfl) (by kernel_rfl) (by kernel_rfl) (fun _ _ _ h => h) rfl ?_ (by assumption) ?_; rotate_left; · (intro w' hSw; (try dsimp only at hSw); go_simp; (try with_reducible rfl))) | (refine take_off (i := 13) rfl (by kernel_rfl) (by kernel_rfl) (by kernel_rfl) (fun _ _ _ h => h) rfl (by assumption) ?_)
          (try simp only [Act.put, List.setIfInBounds_toArray, List.set_cons_zero, List.set_cons_succ])
          first | (refine take_on (i := 14) (v := ?_) rfl (by kernel_rfl) (by kernel_rfl) (by kernel_rfl) (fun _ _ _ h => h) rfl ?_ (by assumption) ?_; rotate_left; · (intro w' hSw; (try dsimp only at hSw); go_simp; (try with_reducible rfl))) | (refine take_off (i := 14) rfl (by kernel_rfl) (by kernel_rfl) (by kernel_rfl) (fun _ _ _ h => h) rfl (by assumption) ?_)
          (try simp only [Act.put, List.setIfInBounds_toArray, List.set_cons_zero, List.set_cons_succ])
          first | (refine take_on (i := 15) (v := ?_) rfl (by kernel_rfl) (by kernel_rfl) (by kernel_rfl) (fun _ _ _ h => h) rfl ?_ (by assumption) ?_; rotate_left; · (intro w' hSw; (try dsimp only at hSw); go_simp; (try with_reducible rfl))) | (refine take_off (i := 15) rfl (by kernel_rfl) (by kernel_rfl) (by kernel_rfl) (fun _ _ _ h => h) rfl (by assumption) ?_)
          (try simp only [Act.put, List.setIfInBounds_toArray, List.set_cons_zero, List.set_cons_succ])
          first | (refine take_on (i := 16) (v := ?_) rfl (by kernel_rfl) (by kernel_rfl) (by kernel_rfl) (fun _ _ _ h => h) rfl ?_ (by assumption) ?_; rotate_left; · (intro w' hSw; (try dsimp only at hSw); go_simp; (try with_reducible rfl))) | (refine take_off (i := 16) rfl (by kernel_rfl) (by kernel_rfl) (by kernel_rfl) (fun _ _ _ h => h) rfl (by assumption) ?_)
          (try simp only [Act.put, List.setIfInBounds_toArray, List.set_cons_zero, List.set_cons_succ])
          first | (refine take_on (i := 17) (v := ?_) rfl (by kernel_rfl) (by kernel_rfl) (by kernel_rfl) (fun _ _ _ h => h) rfl ?_ (by assumption) ?_; rotate_left; · (intro w' hSw; (try dsimp only at hSw); go_simp; (try with_reducible rfl))) | (refine take_off (i := 17) rfl (by kernel_rfl) (by kernel_rfl) (by kernel_rfl) (fun _ _ _ h => h) rfl (by assumption) ?_)
          (try simp only [Act.put, List.setIfInBounds_toArray, List.set_cons_zero, List.set_cons_succ])
          first | (refine take_on (i := 18) (v := ?_) rfl (by kernel_rfl) (by kernel_rfl) (by kernel_rfl) (fun _ _ _ h => h) rfl ?_ (by assumption) ?_; rotate_left; · (intro w' hSw; (try dsimp only at hSw); go_simp; (try with_reducible rfl))) | (refine take_off (i := 18) rfl (by kernel_rfl) (by kernel_rfl) (by kernel_rfl) (fun _ _ _ h => h) rfl (by assumption) ?_)
          (try simp only [Act.put, List.setIfInBounds_toArray, List.set_cons_zero, List.set_cons_succ])
          first | (refine take_on (i := 19) (v := ?_) rfl (by kernel_rfl) (by kernel_rfl) (by kernel_rfl) (fun _ _ _ h => h) rfl ?_ (by assumption) ?_; rotate_left; · (intro w' hSw; (try dsimp only at hSw); go_simp; (try with_reducible rfl))) | (refine take_off (i := 19) rfl (by kernel_rfl) (by kernel_rfl) (by kernel_rfl) (fun _ _ _ h => h) rfl (by assumption) ?_)
          (try simp only [Act.put, List.setIfInBounds_toArray, List.set_cons_zero, List.set_cons_succ])
          first | (refine take_on (i := 20) (v := ?_) rfl (by kernel_rfl) (by kernel_rfl) (by kernel_rfl) (fun _ _ _ h => h) rfl ?_ (by assumption) ?_; rotate_left; · (intro w' hSw; (try dsimp only at hSw); go_simp; (try with_reducible rfl))) | (refine take_off (i := 20) rfl (by kernel_rfl) (by kernel_rfl) (by kernel_rfl) (fun _ _ _ h => h) rfl (by assumption) ?_)
          (try simp only [Act.put, List.setIfInBounds_toArray, List.set_cons_zero, List.set_cons_succ])
          first | (refine take_on (i := 21) (v := ?_) rfl (by kernel_rfl) (by kernel_rfl) (by kernel_rfl) (fun _ _ _ h => h) rfl ?_ (by assumption) ?_; rotate_left; · (intro w' hSw; (try dsimp only at hSw); go_simp; (try with_reducible rfl))) | (refine take_off (i := 21) rfl (by kernel_rfl) (by kernel_rfl) (by kernel_rfl) (fun _ _ _ h => h) rfl (by assumption) ?_)
          (try simp only [Act.put, List.setIfInBounds_toArray, List.set_cons_zero, List.set_cons_succ])
          first | (refine take_on (i := 22) (v := ?_) rfl (by kernel_rfl) (by kernel_rfl) (by kernel_rfl) (fun _ _ _ h => h) rfl ?_ (by assumption) ?_; rotate_left; · (intro w' hSw; (try dsimp only at hSw); go_simp; (try with_reducible rfl))) | (refine take_off (i := 22) rfl (by kernel_rfl) (by kernel_rfl) (by kernel_rfl) (fun _ _ _ h => h) rfl (by assumption) ?_)
          (try simp only [Act.put, List.setIfInBounds_toArray, List.set_cons_zero, List.set_cons_succ])
          first | (refine take_on (i := 23) (v := ?_) rfl (by kernel_rfl) (by kernel_rfl) (by kernel_rfl) (fun _ _ _ h => h) rfl ?_ (by assumption) ?_; rotate_left; · (intro w' hSw; (try dsimp only at hSw); go_simp; (try with_reducible rfl))) | (refine take_off (i := 23) rfl (by kernel_rfl) (by kernel_rfl) (by kernel_rfl) (fun _ _ _ h => h) rfl (by assumption) ?_)
          (try simp only [Act.put, List.setIfInBounds_toArray, List.set_cons_zero, List.set_cons_succ])
          first | (refine take_on (i := 24) (v := ?_) rfl (by kernel_rfl) (by kernel_rfl) (by kernel_rfl) (fun _ _ _ h => h) rfl ?_ (by assumption) ?_; rotate_left; · (intro w' hSw; (try dsimp only at hSw); go_simp; (try with_reducible rfl))) | (refine take_off (i := 24) rfl (by kernel_rfl) (by kernel_rfl) (by kernel_rfl) (fun _ _ _ h => h) rfl (by assumption) ?_)
          (try simp only [Act.put, List.setIfInBounds_toArray, List.set_cons_zero, List.set_cons_succ])
          first | (refine take_on (i := 25) (v := ?_) rfl (by kernel_rfl) (by kernel_rfl) (by kernel_rfl) (fun _ _ _ h => h) rfl ?_ (by assumption) ?_; rotate_left; · (intro w' hSw; (try dsimp only at hSw); go_simp; (try with_reducible rfl))) | (refine take_off (i := 25) rfl (by kernel_rfl) (by kernel_rfl) (by kernel_rfl) (fun _ _ _ h => h) rfl (by assumption) ?_)
          (try simp only [Act.put, List.setIfInBounds_toArray, List.set_cons_zero, List.set_cons_succ])
          first | (refine take_on (i := 26) (v := ?_) rfl (by kernel_rfl) (by kernel_rfl) (by kernel_rfl) (fun _ _ _ h => h) rfl ?_ (by assumption) ?_; rotate_left; · (intro w' hSw; (try dsimp only at hSw); go_simp; (try with_reducible rfl))) | (refine take_off (i := 26) rfl (by kernel_rfl) (by kernel_rfl) (by kernel_rfl) (fun _ _ _ h => h) rfl (by assumption) ?_)
          (try simp only [Act.put, List.setIfInBounds_toArray, List.set_cons_zero, List.set_cons_succ])
          first | (refine take_on (i := 27) (v := ?_) rfl (by kernel_rfl) (by kernel_rfl) (by kernel_rfl) (fun _ _ _ h => h) rfl ?_ (by assumption) ?_; rotate_left; · (intro w' hSw; (try dsimp only at hSw); go_simp; (try with_reducible rfl))) | (refine take_off (i := 27) rfl (by kernel_rfl) (by kernel_rfl) (by kernel_rfl) (fun _ _ _ h => h) rfl (by assumption) ?_)
          (try simp only [Act.put, List.setIfInBounds_toArray, List.set_cons_zero, List.set_cons_succ])
          first | (refine take_on (i := 28) (v := ?_) rfl (by kernel_rfl) (by kernel_rfl) (by kernel_rfl) (fun _ _ _ h => h) rfl ?_ (by assumption) ?_; rotate_left; · (intro w' hSw; (try dsimp only at hSw); go_simp; (try with_reducible rfl))) | (refine take_off (i := 28) rfl (by kernel_rfl) (by kernel_rfl) (by kernel_rfl) (fun _ _ _ h => h) rfl (by assumption) ?_)
          (try simp only [Act.put, List.setIfInBounds_toArray, List.set_cons_zero, List.set_cons_succ])
          first | (refine take_on (i := 29) (v := ?_) rfl (by kernel_rfl) (by kernel_rfl) (by kernel_rfl) (fun _ _ _ h => h) rfl ?_ (by assumption) ?_; rotate_left; · (intro w' hSw; (try dsimp only at hSw); go_simp; (try with_reducible rfl))) | (refine take_off (i := 29) rfl (by kernel_rfl) (by kernel_rfl) (by kernel_rfl) (fun _ _ _ h => h) rfl (by assumption) ?_)
          (try simp only [Act.put, List.setIfInBounds_toArray, List.set_cons_zero, List.set_cons_succ])
          first | (refine take_on (i := 30) (v := ?_) rfl (by kernel_rfl) (by kernel_rfl) (by kernel_rfl) (fun _ _ _ h => h) rfl ?_ (by assumption) ?_; rotate_left; · (intro w' hSw; (try dsimp only at hSw); go_simp; (try with_reducible rfl))) | (refine take_off (i := 30) rfl (by kernel_rfl) (by kernel_rfl) (by kernel_rfl) (fun _ _ _ h => h) rfl (by assumption) ?_)
          (try simp only [Act.put, List.setIfInBounds_toArray, List.set_cons_zero, List.set_cons_succ])
          first | (refine take_on (i := 31) (v := ?_) rfl (by kernel_rfl) (by kernel_rfl) (by kernel_rfl) (fun _ _ _ h => h) rfl ?_ (by assumption) ?_; rotate_left; · (intro w' hSw; (try dsimp only at hSw); go_simp; (try with_reducible rfl))) | (refine take_off (i := 31) rfl (by kernel_rfl) (by kernel_rfl) (by kernel_rfl) (fun _ _ _ h => h) rfl (by assumption) ?_)
          (try simp only [Act.put, List.setIfInBounds_toArray, List.set_cons_zero, List.set_cons_succ])
          first | (refine take_on (i := 32) (v := ?_) rfl (by kernel_rfl) (by kernel_rfl) (by kernel_rfl) (fun _ _ _ h => h) rfl ?_ (by assumption) ?_; rotate_left; · (intro w' hSw; (try dsimp only at hSw); go_simp; (try with_reducible rfl))) | (refine take_off (i := 32) rfl (by kernel_rfl) (by kernel_rfl) (by kernel_rfl) (fun _ _ _ h => h) rfl (by assumption) ?_)
          (try simp only [Act.put, List.setIfInBounds_toArray, List.set_cons_zero, List.set_cons_succ])
          first | (refine take_on (i := 33) (v := ?_) rfl (by kernel_rfl) (by kernel_rfl) (by kernel_rfl) (fun _ _ _ h => h) rfl ?_ (by assumption) ?_; rotate_left; · (intro w' hSw; (try dsimp only at hSw); go_simp; (try with_reducible rfl))) | (refine take_off (i := 33) rfl (by kernel_rfl) (by kernel_rfl) (by kernel_rfl) (fun _ _ _ h => h) rfl (by assumption) ?_)
          (try simp only [Act.put, List.setIfInBounds_toArray, List.set_cons_zero, List.set_cons_succ])
          refine wpAnyH_done (by kernel_rfl) ?_ _
          go_split_ands
          go_wp2_with fail
          go_roundw
          case rel => exact ⟨1, by omega, by go_num, hto2, Below.next hB (by assumption)⟩
          case measure => simp [intOf]; omega
        · have kj : j < S.length := by omega
          obtain ⟨_, _, e0, _, c4, p4⟩ := (HA.out.below hW).at kj
          cases e0
          have hsj := hs _ (List.getElem_mem kj)
          obtain ⟨m, hm, hm59⟩ := strB_pos (hto.out j kj (by omega)).1
          have hmx : m < S[j].l.length := by omega
          have h0x : 0 < S[j + 1].l.length := by have := (strB_true e1).1; omega
          have e3 := lT_eq hm hmx
          have e4 := fT_eq h0x
          rw [hm] at c4 p4
          have HM := Lib.hid hm
          have P4 := Lib.hid p4
          clear p4 hm
          have hwr : IntKind.i64.wrap (j : Int) = (j : Int) := IntWalk.i64_in _ (by omega)
          have hj0 : (0 : Int) ≤ (j : Int) := by omega
          have hjn : (j : Int) < (n : Int) := by omega
          have hj1 : (0 : Int) ≤ (j : Int) + 1 := by omega
          have hj2 : (j : Int) + 1 < (n : Int) := by omega
          obtain ⟨b5, o5, e5, l5, c5, c6, c7⟩ := p1.pt rfl h0x
          rw [e5] at c1 p1
          have c1d : wr.drew.cell? ⟨b1, o1 + (j + 1), none⟩ = some (.slice (some ⟨b5, o5, none⟩) S[j + 1].l.length S[j + 1].c) := c1
          have P1 := Lib.hid p1
          clear p1 e5
          simp only [Nat.zero_mul, Nat.add_zero] at c5 c6 c7
          have hnn : 0 < S[j + 1].l.length := h0x
          cases e2 : decide (S[j + 1].l[0].t ≤ S[j].l[m].t)
          · have hto2 : Hid (ikTo S (j + 1 + 1)) := ikTo_next hto.out ka e1 (by have := of_decide_eq_false e2; rw [e3, e4]; simpa using this)
            clear e1 e3 e4
            go_wp2_with fail
            refine wp_region_held_drew (S := (fun w' => (∀ kb ko, kb < wr.heap.size → w'.cell? ⟨kb, ko, none⟩ = wr.cell? ⟨kb, ko, none⟩) ∧ wr.heap.size ≤ w'.heap.size ∧ Below wr.heap.size wr w')) (by kernel_rfl) ?_ (fun hHeld => ?_)
            · (try dsimp only); (first | exact SB.mk hkB | exact SB.mk ((Below.refl _ _).drew) | (go_split_ands; refine SB.mk (Below.drew ?_); assumption) | (refine SB.mk ?_; go_grown; done) | (go_split_ands; refine SB.mk ?_; go_grown; done))
            first | (refine take_on (i := 0) (v := ?_) rfl (by kernel_rfl) (by kernel_rfl) (by kernel_rfl) (fun _ _ _ h => h) rfl ?_ (by assumption) ?_; rotate_left; · (intro w' hSw; (try dsimp only at hSw); go_simp; (try with_reducible rfl))) | (refine take_off (i := 0) rfl (by kernel_rfl) (by kernel_rfl) (by kernel_rfl) (fun _ _ _ h => h) rfl (by assumption) ?_)
            (try simp only [Act.put, List.setIfInBounds_toArray, List.set_cons_zero, List.set_cons_succ])
            first | (refine take_on (i := 1) (v := ?_) rfl (by kernel_rfl) (by kernel_rfl) (by kernel_rfl) (fun _ _ _ h => h) rfl ?_ (by assumption) ?_; rotate_left; · (intro w' hSw; (try dsimp only at hSw); go_simp; (try with_reducible rfl))) | (refine take_off (i := 1) rfl (by kernel_rfl) (by kernel_rfl) (by kernel_rfl) (fun _ _ _ h => h) rfl (by assumption) ?_)
            (try simp only [Act.put, List.setIfInBounds_toArray, List.set_cons_zero, List.set_cons_succ])
            first | (refine take_on (i := 2) (v := ?_) rfl (by kernel_rfl) (by kernel_rfl) (by kernel_rfl) (fun _ _ _ h => h) rfl ?_ (by assumption) ?_; rotate_left; · (intro w' hSw; (try dsimp only at hSw); go_simp; (try with_reducible rfl))) | (refine take_off (i := 2) rfl (by kernel_rfl) (by kernel_rfl) (by kernel_rfl) (fun _ _ _ h => h) rfl (by assumption) ?_)
            (try simp only [Act.put, List.setIfInBounds_toArray, List.set_cons_zero, List.set_cons_succ])
            first | (refine take_on (i := 3) (v := ?_) rfl (by kernel_rfl) (by kernel_rfl) (by kernel_rfl) (fun _ _ _ h => h) rfl ?_ (by assumption) ?_; rotate_left; · (intro w' hSw; (try dsimp only at hSw); go_simp; (try with_reducible rfl))) | (refine take_off (i := 3) rfl (by kernel_rfl) (by kernel_rfl) (by kernel_rfl) (fun _ _ _ h => h) rfl (by assumption) ?_)
            (try simp only [Act.put, List.setIfInBounds_toArray, List.set_cons_zero, List.set_cons_succ])
            first | (refine take_on (i := 4) (v := ?_) rfl (by kernel_rfl) (by kernel_rfl) (by kernel_rfl) (fun _ _ _ h => h) rfl ?_ (by assumption) ?_; rotate_left; · (intro w' hSw; (try dsimp only at hSw); go_simp; (try with_reducible rfl))) | (refine take_off (i := 4) rfl (by kernel_rfl) (by kernel_rfl) (by kernel_rfl) (fun _ _ _ h => h) rfl (by assumption) ?_)
            (try simp only [Act.put, List.setIfInBounds_toArray, List.set_cons_zero, List.set_cons_succ])
            first | (refine take_on (i := 5) (v := ?_) rfl (by kernel_rfl) (by kernel_rfl) (by kernel_rfl) (fun _ _ _ h => h) rfl ?_ (by assumption) ?_; rotate_left; · (intro w' hSw; (try dsimp only at hSw); go_simp; (try with_reducible rfl))) | (refine take_off (i := 5) rfl (by kernel_rfl) (by kernel_rfl) (by kernel_rfl) (fun _ _ _ h => h) rfl (by assumption) ?_)
            (try simp only [Act.put, List.setIfInBounds_toArray, List.set_cons_zero, List.set_cons_succ])
            refine wpAnyH_ready (rs := [6]) (by kernel_rfl) (by simp) ?_
            refine AllReadyH.cons rfl (fun K hK => ?_) AllReadyH.nil
            rw [if_pos (by rfl)]
            go_simp
            first | (go_at_call 64; (with_reducible refine (l02Stroke_of E1 _ (by first | exact c1 | exact c1d) (by first | exact P1.out | exact P1.out.drew) rfl hsl).mono ?_); rintro e w' ⟨rfl, hb⟩; obtain ⟨_, hks, hkB⟩ := SB.next (by assumption) hb; obtain ⟨hkc, hkf⟩ := bcell hb; have hkz := hb.size; (try simp only [World.size_alloc, World.size_drew] at hkz); (first | (have hkt := Nat.lt_of_succ_le hkz) | (have hkt := Nat.lt_of_lt_of_le (by assumption) hkz) | skip); clear hb) | (go_at_call 65; (with_reducible refine (l02Last_any _ _ _ m _ S[j].l _ (by first | exact (hkB.cell l1).trans c4 | go_simp) (P4.out.below hkB) HM.out hmx (by omega)).mono ?_); rintro e w' ⟨rfl, hb⟩; obtain ⟨_, hks, hkB⟩ := SB.next (by assumption) hb; obtain ⟨hkc, hkf⟩ := bcell hb; have hkz := hb.size; (try simp only [World.size_alloc, World.size_drew] at hkz); (first | (have hkt := Nat.lt_of_succ_le hkz) | (have hkt := Nat.lt_of_lt_of_le (by assumption) hkz) | skip); clear hb)
            refine hK.out _ _ ?_ (fun hHeld2 => ?_)
            · (try dsimp only); (first | exact SB.mk hkB | exact SB.mk ((Below.refl _ _).drew) | (go_split_ands; refine SB.mk (Below.drew ?_); assumption) | (refine SB.mk ?_; go_grown; done) | (go_split_ands; refine SB.mk ?_; go_grown; done))
            clear hK K hHeld; have hHeld := hHeld2; clear hHeld2; (try simp only [Act.put, List.setIfInBounds_toArray, List.set_cons_zero, List.set_cons_succ])
            first | (refine take_on (i := 7) (v := ?_) rfl (by kernel_rfl) (by kernel_rfl) (by kernel_rfl) (fun _ _ _ h => h) rfl ?_ (by assumption) ?_; rotate_left; · (intro w' hSw; (try dsimp only at hSw); go_simp; (try with_reducible rfl))) | (refine take_off (i := 7) rfl (by kernel_rfl) (by kernel_rfl) (by kernel_rfl) (fun _ _ _ h => h) rfl (by assumption) ?_)
            (try simp only [Act.put, List.setIfInBounds_toArray, List.set_cons_zero, List.set_cons_succ])
            first | (refine take_on (i := 8) (v := ?_) rfl (by kernel_rfl) (by kernel_rfl) (by kernel_rfl) (fun _ _ _ h => h) rfl ?_ (by assumption) ?_; rotate_left; · (intro w' hSw; (try dsimp only at hSw); go_simp; (try with_reducible rfl))) | (refine take_off (i := 8) rfl (by kernel_rfl) (by kernel_rfl) (by kernel_rfl) (fun _ _ _ h => h) rfl (by assumption) ?_)
            (try simp only [Act.put, List.setIfInBounds_toArray, List.set_cons_zero, List.set_cons_succ])
            first | (refine take_on (i := 9) (v := ?_) rfl (by kernel_rfl) (by kernel_rfl) (by kernel_rfl) (fun _ _ _ h => h) rfl ?_ (by assumption) ?_; rotate_left; · (intro w' hSw; (try dsimp only at hSw); go_simp; (try with_reducible rfl))) | (refine take_off (i := 9) rfl (by kernel_rfl) (by kernel_rfl) (by kernel_rfl) (fun _ _ _ h => h) rfl (by assumption) ?_)
            (try simp only [Act.put, List.setIfInBounds_toArray, List.set_cons_zero, List.set_cons_succ])
            first | (refine take_on (i := 10) (v := ?_) rfl (by kernel_rfl) (by kernel_rfl) (by kernel_rfl) (fun _ _ _ h => h) rfl ?_ (by assumption) ?_; rotate_left; · (intro w' hSw; (try dsimp only at hSw); go_simp; (try with_reducible rfl))) | (refine take_off (i := 10) rfl (by kernel_rfl) (by kernel_rfl) (by kernel_rfl) (fun _ _ _ h => h) rfl (by assumption) ?_)
            (try simp only [Act.put, List.setIfInBounds_toArray, List.set_cons_zero, List.set_cons_succ])
            first | (refine take_on (i := 11) (v := ?_) rfl (by kernel_rfl) (by kernel_rfl) (by kernel_rfl) (fun _ _ _ h => h) rfl ?_ (by assumption) ?_; rotate_left; · (intro w' hSw; (try dsimp only at hSw); go_simp; (try with_reducible rfl))) | (refine take_off (i := 11) rfl (by kernel_rfl) (by kernel_rfl) (by kernel_rfl) (fun _ _ _ h => h) rfl (by assumption) ?_)
            (try simp only [Act.put, List.setIfInBounds_toArray, List.set_cons_zero, List.set_cons_succ])
            first | (refine take_on (i := 12) (v := ?_) rfl (by kernel_rfl) (by kernel_rfl) (by kernel_rfl) (fun _ _ _ h => h) rfl ?_ (by assumption) ?_; rotate_left; · (intro w' hSw; (try dsimp only at hSw); go_simp; (try with_reducible rfl))) | (refine take_off (i := 12) rfl (by kernel_rfl) (by kernel_rfl) (by kernel_rfl) (fun _ _ _ h => h) rfl (by assumption) ?_)
            (try simp only [Act.put, List.setIfInBounds_toArray, List.set_cons_zero, List.set_cons_succ])
            first | (refine take_on (i := 13) (v := ?_) rfl (by kernel_rfl) (by kernel_rfl) (by kernel_rfl) (fun _ _ _ h => h) rfl ?_ (by assumption) ?_; rotate_left; · (intro w' hSw; (try dsimp only at hSw); go_simp; (try with_reducible rfl))) | (refine take_off (i := 13) rfl (by kernel_rfl) (by kernel_rfl) (by kernel_rfl) (fun _ _ _ h => h) rfl (by assumption) ?_)
            (try simp only [Act.put, List.setIfInBounds_toArray, List.set_cons_zero, List.set_cons_succ])
            first | (refine take_on (i := 14) (v := ?_) rfl (by kernel_rfl) (by kernel_rfl) (by kernel_rfl) (fun _ _ _ h => h) rfl ?_ (by assumption) ?_; rotate_left; · (intro w' hSw; (try dsimp only at hSw); go_simp; (try with_reducible rfl))) | (refine take_off (i := 14) rfl (by kernel_rfl) (by kernel_rfl) (by kernel_rfl) (fun _ _ _ h => h) rfl (by assumption) ?_)
            (try simp only [Act.put, List.setIfInBounds_toArray, List.set_cons_zero, List.set_cons_succ])
            first | (refine take_on (i := 15) (v := ?_) rfl (by kernel_rfl) (by kernel_rfl) (by kernel_rfl) (fun _ _ _ h => h) rfl ?_ (by assumption) ?_; rotate_left; · (intro w' hSw; (try dsimp only at hSw); go_simp; (try with_reducible rfl))) | (refine take_off (i := 15) rfl (by kernel_rfl) (by kernel_rfl) (by kernel_rfl) (fun _ _ _ h => h) rfl (by assumption) ?_)
            (try simp only [Act.put, List.setIfInBounds_toArray, List.set_cons_zero, List.set_cons_succ])
            first | (refine take_on (i := 16) (v := ?_) rfl (by kernel_rfl) (by kernel_rfl) (by kernel_rfl) (fun _ _ _ h => h) rfl ?_ (by assumption) ?_; rotate_left; · (intro w' hSw; (try dsimp only at hSw); go_simp; (try with_reducible rfl))) | (refine take_off (i := 16) rfl (by kernel_rfl) (by kernel_rfl) (by kernel_rfl) (fun _ _ _ h => h) rfl (by assumption) ?_)
            (try simp only [Act.put, List.setIfInBounds_toArray, List.set_cons_zero, List.set_cons_succ])
            first | (refine take_on (i := 17) (v := ?_) rfl (by kernel_rfl) (by kernel_rfl) (by kernel_rfl) (fun _ _ _ h => h) rfl ?_ (by assumption) ?_; rotate_left; · (intro w' hSw; (try dsimp only at hSw); go_simp; (try with_reducible rfl))) | (refine take_off (i := 17) rfl (by kernel_rfl) (by kernel_rfl) (by kernel_rfl) (fun _ _ _ h => h) rfl (by assumption) ?_)
            (try simp only [Act.put, List.setIfInBounds_toArray, List.set_cons_zero, List.set_cons_succ])
            first | (refine take_on (i := 18) (v := ?_) rfl (by kernel_rfl) (by kernel_rfl) (by kernel_rfl) (fun _ _ _ h => h) rfl ?_ (by assumption) ?_; rotate_left; · (intro w' hSw; (try dsimp only at hSw); go_simp; (try with_reducible rfl))) | (refine take_off (i := 18) rfl (by kernel_rfl) (by kernel_rfl) (by kernel_rfl) (fun _ _ _ h => h) rfl (by assumption) ?_)
            (try simp only [Act.put, List.setIfInBounds_toArray, List.set_cons_zero, List.set_cons_succ])
            first | (refine take_on (i := 19) (v := ?_) rfl (by kernel_rfl) (by kernel_rfl) (by kernel_rfl) (fun _ _ _ h => h) rfl ?_ (by assumption) ?_; rotate_left; · (intro w' hSw; (try dsimp only at hSw); go_simp; (try with_reducible rfl))) | (refine take_off (i := 19) rfl (by kernel_rfl) (by kernel_rfl) (by kernel_rfl) (fun _ _ _ h => h) rfl (by assumption) ?_)
            (try simp only [Act.put, List.setIfInBounds_toArray, List.set_cons_zero, List.set_cons_succ])
            first | (refine take_on (i := 20) (v := ?_) rfl (by kernel_rfl) (by kernel_rfl) (by kernel_rfl) (fun _ _ _ h => h) rfl ?_ (by assumption) ?_; rotate_left; · (intro w' hSw; (try dsimp only at hSw); go_simp; (try with_reducible rfl))) | (refine take_off (i := 20) rfl (by kernel_rfl) (by kernel_rfl) (by kernel_rfl) (fun _ _ _ h => h) rfl (by assumption) ?_)
            (try simp only [Act.put, List.setIfInBounds_toArray, List.set_cons_zero, List.set_cons_succ])
            first | (refine take_on (i := 21) (v := ?_) rfl (by kernel_rfl) (by kernel_rfl) (by kernel_rfl) (fun _ _ _ h => h) rfl ?_ (by assumption) ?_; rotate_left; · (intro w' hSw; (try dsimp only at hSw); go_simp; (try with_reducible rfl))) | (refine take_off (i := 21) rfl (by kernel_rfl) (by kernel_rfl) (by kernel_rfl) (fun _ _ _ h => h) rfl (by assumption) ?_)
            (try simp only [Act.put, List.setIfInBounds_toArray, List.set_cons_zero, List.set_cons_succ])
            first | (refine take_on (i := 22) (v := ?_) rfl (by kernel_rfl) (by kernel_rfl) (by kernel_rfl) (fun _ _ _ h => h) rfl ?_ (by assumption) ?_; rotate_left; · (intro w' hSw; (try dsimp only at hSw); go_simp; (try with_reducible rfl))) | (refine take_off (i := 22) rfl (by kernel_rfl) (by kernel_rfl) (by kernel_rfl) (fun _ _ _ h => h) rfl (by assumption) ?_)
            (try simp only [Act.put, List.setIfInBounds_toArray, List.set_cons_zero, List.set_cons_succ])
            first | (refine take_on (i := 23) (v := ?_) rfl (by kernel_rfl) (by kernel_rfl) (by kernel_rfl) (fun _ _ _ h => h) rfl ?_ (by assumption) ?_; rotate_left; · (intro w' hSw; (try dsimp only at hSw); go_simp; (try with_reducible rfl))) | (refine take_off (i := 23) rfl (by kernel_rfl) (by kernel_rfl) (by kernel_rfl) (fun _ _ _ h => h) rfl (by assumption) ?_)
            (try simp only [Act.put, List.setIfInBounds_toArray, List.set_cons_zero, List.set_cons_succ])
            first | (refine take_on (i := 24) (v := ?_) rfl (by kernel_rfl) (by kernel_rfl) (by kernel_rfl) (fun _ _ _ h => h) rfl ?_ (by assumption) ?_; rotate_left; · (intro w' hSw; (try dsimp only at hSw); go_simp; (try with_reducible rfl))) | (refine take_off (i := 24) rfl (by kernel_rfl) (by kernel_rfl) (by kernel_rfl) (fun _ _ _ h => h) rfl (by assumption) ?_)
            (try simp only [Act.put, List.setIfInBounds_toArray, List.set_cons_zero, List.set_cons_succ])
            first | (refine take_on (i := 25) (v := ?_) rfl (by kernel_rfl) (by kernel_rfl) (by kernel_rfl) (fun _ _ _ h => h) rfl ?_ (by assumption) ?_; rotate_left; · (intro w' hSw; (try dsimp only at hSw); go_simp; (try with_reducible rfl))) | (refine take_off (i := 25) rfl (by kernel_rfl) (by kernel_rfl) (by kernel_rfl) (fun _ _ _ h => h) rfl (by assumption) ?_)
            (try simp only [Act.put, List.setIfInBounds_toArray, List.set_cons_zero, List.set_cons_succ])
            first | (refine take_on (i := 26) (v := ?_) rfl (by kernel_rfl) (by kernel_rfl) (by kernel_rfl) (fun _ _ _ h => h) rfl ?_ (by assumption) ?_; rotate_left; · (intro w' hSw; (try dsimp only at hSw); go_simp; (try with_reducible rfl))) | (refine take_off (i := 26) rfl (by kernel_rfl) (by kernel_rfl) (by kernel_rfl) (fun _ _ _ h => h) rfl (by assumption) ?_)
            (try simp only [Act.put, List.setIfInBounds_toArray, List.set_cons_zero, List.set_cons_succ])
            first | (refine take_on (i := 27) (v := ?_) rfl (by kernel_rfl) (by kernel_rfl) (by kernel_rfl) (fun _ _ _ h => h) rfl ?_ (by assumption) ?_; rotate_left; · (intro w' hSw; (try dsimp only at hSw); go_simp; (try with_reducible rfl))) | (refine take_off (i := 27) rfl (by kernel_rfl) (by kernel_rfl) (by kernel_rfl) (fun _ _ _ h => h) rfl (by assumption) ?_)
            (try simp only [Act.put, List.setIfInBounds_toArray, List.set_cons_zero, List.set_cons_succ])
            first | (refine take_on (i := 28) (v := ?_) rfl (by kernel_rfl) (by kernel_rfl) (by kernel_rfl) (fun _ _ _ h => h) rfl ?_ (by assumption) ?_; rotate_left; · (intro w' hSw; (try dsimp only at hSw); go_simp; (try with_reducible rfl))) | (refine take_off (i := 28) rfl (by kernel_rfl) (by kernel_rfl) (by kernel_rfl) (fun _ _ _ h => h) rfl (by assumption) ?_)
            (try simp only [Act.put, List.setIfInBounds_toArray, List.set_cons_zero, List.set_cons_succ])
            first | (refine take_on (i := 29) (v := ?_) rfl (by kernel_rfl) (by kernel_rfl) (by kernel_rfl) (fun _ _ _ h => h) rfl ?_ (by assumption) ?_; rotate_left; · (intro w' hSw; (try dsimp only at hSw); go_simp; (try with_reducible rfl))) | (refine take_off (i := 29) rfl (by kernel_rfl) (by kernel_rfl) (by kernel_rfl) (fun _ _ _ h => h) rfl (by assumption) ?_)
            (try simp only [Act.put, List.setIfInBounds_toArray, List.set_cons_zero, List.set_cons_succ])
            refine wpAnyH_ready (rs := [30]) (by kernel_rfl) (by simp) ?_
            refine AllReadyH.cons rfl (fun K hK => ?_) AllReadyH.nil
            rw [if_pos (by rfl)]
            go_simp
            first | (go_at_call 64; (with_reducible refine (l02Stroke_of E1 _ (by first | exact c1 | exact c1d) (by first | exact P1.out | exact P1.out.drew) rfl hsl).mono ?_); rintro e w' ⟨rfl, hb⟩; obtain ⟨_, hks, hkB⟩ := SB.next (by assumption) hb; obtain ⟨hkc, hkf⟩ := bcell hb; have hkz := hb.size; (try simp only [World.size_alloc, World.size_drew] at hkz); (first | (have hkt := Nat.lt_of_succ_le hkz) | (have hkt := Nat.lt_of_lt_of_le (by assumption) hkz) | skip); clear hb) | (go_at_call 65; (with_reducible refine (l02Last_any _ _ _ m _ S[j].l _ (by first | exact (hkB.cell l1).trans c4 | go_simp) (P4.out.below hkB) HM.out hmx (by omega)).mono ?_); rintro e w' ⟨rfl, hb⟩; obtain ⟨_, hks, hkB⟩ := SB.next (by assumption) hb; obtain ⟨hkc, hkf⟩ := bcell hb; have hkz := hb.size; (try simp only [World.size_alloc, World.size_drew] at hkz); (first | (have hkt := Nat.lt_of_succ_le hkz) | (have hkt := Nat.lt_of_lt_of_le (by assumption) hkz) | skip); clear hb)
            refine hK.out _ _ ?_ (fun hHeld2 => ?_)
            · (try dsimp only); (first | exact SB.mk hkB | exact SB.mk ((Below.refl _ _).drew) | (go_split_ands; refine SB.mk (Below.drew ?_); assumption) | (refine SB.mk ?_; go_grown; done) | (go_split_ands; refine SB.mk ?_; go_grown; done))
            clear hK K hHeld; have hHeld := hHeld2; clear hHeld2; (try simp only [Act.put, List.setIfInBounds_toArray, List.set_cons_zero, List.set_cons_succ])
            first | (refine take_on (i := 31) (v := ?_) rfl (by kernel_rfl) (by kernel_rfl) (by kernel_rfl) (fun _ _ _ h => h) rfl ?_ (by assumption) ?_; rotate_left; · (intro w' hSw; (try dsimp only at hSw); go_simp; (try with_reducible rfl))) | (refine take_off (i := 31) rfl (by kernel_rfl) (by kernel_rfl) (by kernel_rfl) (fun _ _ _ h => h) rfl (by assumption) ?_)
            (try simp only [Act.put, List.setIfInBounds_toArray, List.set_cons_zero, List.set_cons_succ])
            first | (refine take_on (i := 32) (v := ?_) rfl (by kernel_rfl) (by kernel_rfl) (by kernel_rfl) (fun _ _ _ h => h) rfl ?_ (by assumption) ?_; rotate_left; · (intro w' hSw; (try dsimp only at hSw); go_simp; (try with_reducible rfl))) | (refine take_off (i := 32) rfl (by kernel_rfl) (by kernel_rfl) (by kernel_rfl) (fun _ _ _ h => h) rfl (by assumption) ?_)
            (try simp only [Act.put, List.setIfInBounds_toArray, List.set_cons_zero, List.set_cons_succ])
            first | (refine take_on (i := 33) (v := ?_) rfl (by kernel_rfl) (by kernel_rfl) (by kernel_rfl) (fun _ _ _ h => h) rfl ?_ (by assumption) ?_; rotate_left; · (intro w' hSw; (try dsimp only at hSw); go_simp; (try with_reducible rfl))) | (refine take_off (i := 33) rfl (by kernel_rfl) (by kernel_rfl) (by kernel_rfl) (fun _ _ _ h => h) rfl (by assumption) ?_)
            (try simp only [Act.put, List.setIfInBounds_toArray, List.set_cons_zero, List.set_cons_succ])
            refine wpAnyH_done (by kernel_rfl) ?_ _
            go_split_ands
            go_wp2_with fail
            go_roundw
            case rel => exact ⟨j + 1 + 1, by omega, by go_num, hto2, Below.next hB (by assumption)⟩
            case measure => simp [intOf]; omega
          · have hno : Hid (ikAll (ptsOf S) = false) := ikAll_t ka (by have := of_decide_eq_true e2; rw [e3, e4]; omega)
            clear e1 e3 e4
            go_wp2_with fail
            refine wp_region_held_drew (S := (fun w' => (∀ kb ko, kb < wr.heap.size → w'.cell? ⟨kb, ko, none⟩ = wr.cell? ⟨kb, ko, none⟩) ∧ wr.heap.size ≤ w'.heap.size ∧ Below wr.heap.size wr w')) (by kernel_rfl) ?_ (fun hHeld => ?_)
            · (try dsimp only); (first | exact SB.mk hkB | exact SB.mk ((Below.refl _ _).drew) | (go_split_ands; refine SB.mk (Below.drew ?_); assumption) | (refine SB.mk ?_; go_grown; done) | (go_split_ands; refine SB.mk ?_; go_grown; done))
            first | (refine take_on (i := 0) (v := ?_) rfl (by kernel_rfl) (by kernel_rfl) (by kernel_rfl) (fun _ _ _ h => h) rfl ?_ (by assumption) ?_; rotate_left; · (intro w' hSw; (try dsimp only at hSw); go_simp; (try with_reducible rfl))) | (refine take_off (i := 0) rfl (by kernel_rfl) (by kernel_rfl) (by kernel_rfl) (fun _ _ _ h => h) rfl (by assumption) ?_)
            (try simp only [Act.put, List.setIfInBounds_toArray, List.set_cons_zero, List.set_cons_succ])
            first | (refine take_on (i := 1) (v := ?_) rfl (by kernel_rfl) (by kernel_rfl) (by kernel_rfl) (fun _ _ _ h => h) rfl ?_ (by assumption) ?_; rotate_left; · (intro w' hSw; (try dsimp only at hSw); go_simp; (try with_reducible rfl))) | (refine take_off (i := 1) rfl (by kernel_rfl) (by kernel_rfl) (by kernel_rfl) (fun _ _ _ h => h) rfl (by assumption) ?_)
            (try simp only [Act.put, List.setIfInBounds_toArray, List.set_cons_zero, List.set_cons_succ])
            first | (refine take_on (i := 2) (v := ?_) rfl (by kernel_rfl) (by kernel_rfl) (by kernel_rfl) (fun _ _ _ h => h) rfl ?_ (by assumption) ?_; rotate_left; · (intro w' hSw; (try dsimp only at hSw); go_simp; (try with_reducible rfl))) | (refine take_off (i := 2) rfl (by kernel_rfl) (by kernel_rfl) (by kernel_rfl) (fun _ _ _ h => h) rfl (by assumption) ?_)
            (try simp only [Act.put, List.setIfInBounds_toArray, List.set_cons_zero, List.set_cons_succ])
            first | (refine take_on (i := 3) (v := ?_) rfl (by kernel_rfl) (by kernel_rfl) (by kernel_rfl) (fun _ _ _ h => h) rfl ?_ (by assumption) ?_; rotate_left; · (intro w' hSw; (try dsimp only at hSw); go_simp; (try with_reducible rfl))) | (refine take_off (i := 3) rfl (by kernel_rfl) (by kernel_rfl) (by kernel_rfl) (fun _ _ _ h => h) rfl (by assumption) ?_)
            (try simp only [Act.put, List.setIfInBounds_toArray, List.set_cons_zero, List.set_cons_succ])
            first | (refine take_on (i := 4) (v := ?_) rfl (by kernel_rfl) (by kernel_rfl) (by kernel_rfl) (fun _ _ _ h => h) rfl ?_ (by assumption) ?_; rotate_left; · (intro w' hSw; (try dsimp only at hSw); go_simp; (try with_reducible rfl))) | (refine take_off (i := 4) rfl (by kernel_rfl) (by kernel_rfl) (by kernel_rfl) (fun _ _ _ h => h) rfl (by assumption) ?_)
            (try simp only [Act.put, List.setIfInBounds_toArray, List.set_cons_zero, List.set_cons_succ])
            first | (refine take_on (i := 5) (v := ?_) rfl (by kernel_rfl) (by kernel_rfl) (by kernel_rfl) (fun _ _ _ h => h) rfl ?_ (by assumption) ?_; rotate_left; · (intro w' hSw; (try dsimp only at hSw); go_simp; (try with_reducible rfl))) | (refine take_off (i := 5) rfl (by kernel_rfl) (by kernel_rfl) (by kernel_rfl) (fun _ _ _ h => h) rfl (by assumption) ?_)
            (try simp only [Act.put, List.setIfInBounds_toArray, List.set_cons_zero, List.set_cons_succ])
            refine wpAnyH_ready (rs := [6]) (by kernel_rfl) (by simp) ?_
            refine AllReadyH.cons rfl (fun K hK => ?_) AllReadyH.nil
            rw [if_pos (by rfl)]
            go_simp
            first | (go_at_call 64; (with_reducible refine (l02Stroke_of E1 _ (by first | exact c1 | exact c1d) (by first | exact P1.out | exact P1.out.drew) rfl hsl).mono ?_); rintro e w' ⟨rfl, hb⟩; obtain ⟨_, hks, hkB⟩ := SB.next (by assumption) hb; obtain ⟨hkc, hkf⟩ := bcell hb; have hkz := hb.size; (try simp only [World.size_alloc, World.size_drew] at hkz); (first | (have hkt := Nat.lt_of_succ_le hkz) | (have hkt := Nat.lt_of_lt_of_le (by assumption) hkz) | skip); clear hb) | (go_at_call 65; (with_reducible refine (l02Last_any _ _ _ m _ S[j].l _ (by first | exact (hkB.cell l1).trans c4 | go_simp) (P4.out.below hkB) HM.out hmx (by omega)).mono ?_); rintro e w' ⟨rfl, hb⟩; obtain ⟨_, hks, hkB⟩ := SB.next (by assumption) hb; obtain ⟨hkc, hkf⟩ := bcell hb; have hkz := hb.size; (try simp only [World.size_alloc, World.size_drew] at hkz); (first | (have hkt := Nat.lt_of_succ_le hkz) | (have hkt := Nat.lt_of_lt_of_le (by assumption) hkz) | skip); clear hb)
            refine hK.out _ _ ?_ (fun hHeld2 => ?_)
            · (try dsimp only); (first | exact SB.mk hkB | exact SB.mk ((Below.refl _ _).drew) | (go_split_ands; refine SB.mk (Below.drew ?_); assumption) | (refine SB.mk ?_; go_grown; done) | (go_split_ands; refine SB.mk ?_; go_grown; done))
            clear hK K hHeld; have hHeld := hHeld2; clear hHeld2; (try simp only [Act.put, List.setIfInBounds_toArray, List.set_cons_zero, List.set_cons_succ])
            first | (refine take_on (i := 7) (v := ?_) rfl (by kernel_rfl) (by kernel_rfl) (by kernel_rfl) (fun _ _ _ h => h) rfl ?_ (by assumption) ?_; rotate_left; · (intro w' hSw; (try dsimp only at hSw); go_simp; (try with_reducible rfl))) | (refine take_off (i := 7) rfl (by kernel_rfl) (by kernel_rfl) (by kernel_rfl) (fun _ _ _ h => h) rfl (by assumption) ?_)
            (try simp only [Act.put, List.setIfInBounds_toArray, List.set_cons_zero, List.set_cons_succ])
            first | (refine take_on (i := 8) (v := ?_) rfl (by kernel_rfl) (by kernel_rfl) (by kernel_rfl) (fun _ _ _ h => h) rfl ?_ (by assumption) ?_; rotate_left; · (intro w' hSw; (try dsimp only at hSw); go_simp; (try with_reducible rfl))) | (refine take_off (i := 8) rfl (by kernel_rfl) (by kernel_rfl) (by kernel_rfl) (fun _ _ _ h => h) rfl (by assumption) ?_)
            (try simp only [Act.put, List.setIfInBounds_toArray, List.set_cons_zero, List.set_cons_succ])
            first | (refine take_on (i := 9) (v := ?_) rfl (by kernel_rfl) (by kernel_rfl) (by kernel_rfl) (fun _ _ _ h => h) rfl ?_ (by assumption) ?_; rotate_left; · (intro w' hSw; (try dsimp only at hSw); go_simp; (try with_reducible rfl))) | (refine take_off (i := 9) rfl (by kernel_rfl) (by kernel_rfl) (by kernel_rfl) (fun _ _ _ h => h) rfl (by assumption) ?_)
            (try simp only [Act.put, List.setIfInBounds_toArray, List.set_cons_zero, List.set_cons_succ])
            first | (refine take_on (i := 10) (v := ?_) rfl (by kernel_rfl) (by kernel_rfl) (by kernel_rfl) (fun _ _ _ h => h) rfl ?_ (by assumption) ?_; rotate_left; · (intro w' hSw; (try dsimp only at hSw); go_simp; (try with_reducible rfl))) | (refine take_off (i := 10) rfl (by kernel_rfl) (by kernel_rfl) (by kernel_rfl) (fun _ _ _ h => h) rfl (by assumption) ?_)
            (try simp only [Act.put, List.setIfInBounds_toArray, List.set_cons_zero, List.set_cons_succ])
            first | (refine take_on (i := 11) (v := ?_) rfl (by kernel_rfl) (by kernel_rfl) (by kernel_rfl) (fun _ _ _ h => h) rfl ?_ (by assumption) ?_; rotate_left; · (intro w' hSw; (try dsimp only at hSw); go_simp; (try with_reducible rfl))) | (refine take_off (i := 11) rfl (by kernel_rfl) (by kernel_rfl) (by kernel_rfl) (fun _ _ _ h => h) rfl (by assumption) ?_)
            (try simp only [Act.put, List.setIfInBounds_toArray, List.set_cons_zero, List.set_cons_succ])
            first | (refine take_on (i := 12) (v := ?_) rfl (by kernel_rfl) (by kernel_rfl) (by kernel_rfl) (fun _ _ _ h => h) rfl ?_ (by assumption) ?_; rotate_left; · (intro w' hSw; (try dsimp only at hSw); go_simp; (try with_reducible rfl))) | (refine take_off (i := 12) rfl (by kernel_rfl) (by kernel_rfl) (by kernel_rfl) (fun _ _ _ h => h) rfl (by assumption) ?_)
            (try simp only [Act.put, List.setIfInBounds_toArray, List.set_cons_zero, List.set_cons_succ])
            first | (refine take_on (i := 13) (v := ?_) rfl (by kernel_rfl) (by kernel_rfl) (by kernel_rfl) (fun _ _ _ h => h) rfl ?_ (by assumption) ?_; rotate_left; · (intro w' hSw; (try dsimp only at hSw); go_simp; (try with_reducible rfl))) | (refine take_off (i := 13) rfl (by kernel_rfl) (by kernel_rfl) (by kernel_rfl) (fun _ _ _ h => h) rfl (by assumption) ?_)
            (try simp only [Act.put, List.setIfInBounds_toArray, List.set_cons_zero, List.set_cons_succ])
            first | (refine take_on (i := 14) (v := ?_) rfl (by kernel_rfl) (by kernel_rfl) (by kernel_rfl) (fun _ _ _ h => h) rfl ?_ (by assumption) ?_; rotate_left; · (intro w' hSw; (try dsimp only at hSw); go_simp; (try with_reducible rfl))) | (refine take_off (i := 14) rfl (by kernel_rfl) (by kernel_rfl) (by kernel_rfl) (fun _ _ _ h => h) rfl (by assumption) ?_)
            (try simp only [Act.put, List.setIfInBounds_toArray, List.set_cons_zero, List.set_cons_succ])
            first | (refine take_on (i := 15) (v := ?_) rfl (by kernel_rfl) (by kernel_rfl) (by kernel_rfl) (fun _ _ _ h => h) rfl ?_ (by assumption) ?_; rotate_left; · (intro w' hSw; (try dsimp only at hSw); go_simp; (try with_reducible rfl))) | (refine take_off (i := 15) rfl (by kernel_rfl) (by kernel_rfl) (by kernel_rfl) (fun _ _ _ h => h) rfl (by assumption) ?_)
            (try simp only [Act.put, List.setIfInBounds_toArray, List.set_cons_zero, List.set_cons_succ])
            first | (refine take_on (i := 16) (v := ?_) rfl (by kernel_rfl) (by kernel_rfl) (by kernel_rfl) (fun _ _ _ h => h) rfl ?_ (by assumption) ?_; rotate_left; · (intro w' hSw; (try dsimp only at hSw); go_simp; (try with_reducible rfl))) | (refine take_off (i := 16) rfl (by kernel_rfl) (by kernel_rfl) (by kernel_rfl) (fun _ _ _ h => h) rfl (by assumption) ?_)
            (try simp only [Act.put, List.setIfInBounds_toArray, List.set_cons_zero, List.set_cons_succ])
            first | (refine take_on (i := 17) (v := ?_) rfl (by kernel_rfl) (by kernel_rfl) (by kernel_rfl) (fun _ _ _ h => h) rfl ?_ (by assumption) ?_; rotate_left; · (intro w' hSw; (try dsimp only at hSw); go_simp; (try with_reducible rfl))) | (refine take_off (i := 17) rfl (by kernel_rfl) (by kernel_rfl) (by kernel_rfl) (fun _ _ _ h => h) rfl (by assumption) ?_)
            (try simp only [Act.put, List.setIfInBounds_toArray, List.set_cons_zero, List.set_cons_succ])
            first | (refine take_on (i := 18) (v := ?_) rfl (by kernel_rfl) (by kernel_rfl) (by kernel_rfl) (fun _ _ _ h => h) rfl ?_ (by assumption) ?_; rotate_left; · (intro w' hSw; (try dsimp only at hSw); go_simp; (try with_reducible rfl))) | (refine take_off (i := 18) rfl (by kernel_rfl) (by kernel_rfl) (by kernel_rfl) (fun _ _ _ h => h) rfl (by assumption) ?_)
            (try simp only [Act.put, List.setIfInBounds_toArray, List.set_cons_zero, List.set_cons_succ])
            first | (refine take_on (i := 19) (v := ?_) rfl (by kernel_rfl) (by kernel_rfl) (by kernel_rfl) (fun _ _ _ h => h) rfl ?_ (by assumption) ?_; rotate_left; · (intro w' hSw; (try dsimp only at hSw); go_simp; (try with_reducible rfl))) | (refine take_off (i := 19) rfl (by kernel_rfl) (by kernel_rfl) (by kernel_rfl) (fun _ _ _ h => h) rfl (by assumption) ?_)
            (try simp only [Act.put, List.setIfInBounds_toArray, List.set_cons_zero, List.set_cons_succ])
            first | (refine take_on (i := 20) (v := ?_) rfl (by kernel_rfl) (by kernel_rfl) (by kernel_rfl) (fun _ _ _ h => h) rfl ?_ (by assumption) ?_; rotate_left; · (intro w' hSw; (try dsimp only at hSw); go_simp; (try with_reducible rfl))) | (refine take_off (i := 20) rfl (by kernel_rfl) (by kernel_rfl) (by kernel_rfl) (fun _ _ _ h => h) rfl (by assumption) ?_)
            (try simp only [Act.put, List.setIfInBounds_toArray, List.set_cons_zero, List.set_cons_succ])
            first | (refine take_on (i := 21) (v := ?_) rfl (by kernel_rfl) (by kernel_rfl) (by kernel_rfl) (fun _ _ _ h => h) rfl ?_ (by assumption) ?_; rotate_left; · (intro w' hSw; (try dsimp only at hSw); go_simp; (try with_reducible rfl))) | (refine take_off (i := 21) rfl (by kernel_rfl) (by kernel_rfl) (by kernel_rfl) (fun _ _ _ h => h) rfl (by assumption) ?_)
            (try simp only [Act.put, List.setIfInBounds_toArray, List.set_cons_zero, List.set_cons_succ])
            first | (refine take_on (i := 22) (v := ?_) rfl (by kernel_rfl) (by kernel_rfl) (by kernel_rfl) (fun _ _ _ h => h) rfl ?_ (by assumption) ?_; rotate_left; · (intro w' hSw; (try dsimp only at hSw); go_simp; (try with_reducible rfl))) | (refine take_off (i := 22) rfl (by kernel_rfl) (by kernel_rfl) (by kernel_rfl) (fun _ _ _ h => h) rfl (by assumption) ?_)
            (try simp only [Act.put, List.setIfInBounds_toArray, List.set_cons_zero, List.set_cons_succ])
            first | (refine take_on (i := 23) (v := ?_) rfl (by kernel_rfl) (by kernel_rfl) (by kernel_rfl) (fun _ _ _ h => h) rfl ?_ (by assumption) ?_; rotate_left; · (intro w' hSw; (try dsimp only at hSw); go_simp; (try with_reducible rfl))) | (refine take_off (i := 23) rfl (by kernel_rfl) (by kernel_rfl) (by kernel_rfl) (fun _ _ _ h => h) rfl (by assumption) ?_)
            (try simp only [Act.put, List.setIfInBounds_toArray, List.set_cons_zero, List.set_cons_succ])
            first | (refine take_on (i := 24) (v := ?_) rfl (by kernel_rfl) (by kernel_rfl) (by kernel_rfl) (fun _ _ _ h => h) rfl ?_ (by assumption) ?_; rotate_left; · (intro w' hSw; (try dsimp only at hSw); go_simp; (try with_reducible rfl))) | (refine take_off (i := 24) rfl (by kernel_rfl) (by kernel_rfl) (by kernel_rfl) (fun _ _ _ h => h) rfl (by assumption) ?_)
            (try simp only [Act.put, List.setIfInBounds_toArray, List.set_cons_zero, List.set_cons_succ])
            first | (refine take_on (i := 25) (v := ?_) rfl (by kernel_rfl) (by kernel_rfl) (by kernel_rfl) (fun _ _ _ h => h) rfl ?_ (by assumption) ?_; rotate_left; · (intro w' hSw; (try dsimp only at hSw); go_simp; (try with_reducible rfl))) | (refine take_off (i := 25) rfl (by kernel_rfl) (by kernel_rfl) (by kernel_rfl) (fun _ _ _ h => h) rfl (by assumption) ?_)
            (try simp only [Act.put, List.setIfInBounds_toArray, List.set_cons_zero, List.set_cons_succ])
            first | (refine take_on (i := 26) (v := ?_) rfl (by kernel_rfl) (by kernel_rfl) (by kernel_rfl) (fun _ _ _ h => h) rfl ?_ (by assumption) ?_; rotate_left; · (intro w' hSw; (try dsimp only at hSw); go_simp; (try with_reducible rfl))) | (refine take_off (i := 26) rfl (by kernel_rfl) (by kernel_rfl) (by kernel_rfl) (fun _ _ _ h => h) rfl (by assumption) ?_)
            (try simp only [Act.put, List.setIfInBounds_toArray, List.set_cons_zero, List.set_cons_succ])
            first | (refine take_on (i := 27) (v := ?_) rfl (by kernel_rfl) (by kernel_rfl) (by kernel_rfl) (fun _ _ _ h => h) rfl ?_ (by assumption) ?_; rotate_left; · (intro w' hSw; (try dsimp only at hSw); go_simp; (try with_reducible rfl))) | (refine take_off (i := 27) rfl (by kernel_rfl) (by kernel_rfl) (by kernel_rfl) (fun _ _ _ h => h) rfl (by assumption) ?_)
            (try simp only [Act.put, List.setIfInBounds_toArray, List.set_cons_zero, List.set_cons_succ])
            first | (refine take_on (i := 28) (v := ?_) rfl (by kernel_rfl) (by kernel_rfl) (by kernel_rfl) (fun _ _ _ h => h) rfl ?_ (by assumption) ?_; rotate_left; · (intro w' hSw; (try dsimp only at hSw); go_simp; (try with_reducible rfl))) | (refine take_off (i := 28) rfl (by kernel_rfl) (by kernel_rfl) (by kernel_rfl) (fun _ _ _ h => h) rfl (by assumption) ?_)
            (try simp only [Act.put, List.setIfInBounds_toArray, List.set_cons_zero, List.set_cons_succ])
            first | (refine take_on (i := 29) (v := ?_) rfl (by kernel_rfl) (by kernel_rfl) (by kernel_rfl) (fun _ _ _ h => h) rfl ?_ (by assumption) ?_; rotate_left; · (intro w' hSw; (try dsimp only at hSw); go_simp; (try with_reducible rfl))) | (refine take_off (i := 29) rfl (by kernel_rfl) (by kernel_rfl) (by kernel_rfl) (fun _ _ _ h => h) rfl (by assumption) ?_)
            (try simp only [Act.put, List.setIfInBounds_toArray, List.set_cons_zero, List.set_cons_succ])
            refine wpAnyH_ready (rs := [30]) (by kernel_rfl) (by simp) ?_
            refine AllReadyH.cons rfl (fun K hK => ?_) AllReadyH.nil
            rw [if_pos (by rfl)]
            go_simp
            first | (go_at_call 64; (with_reducible refine (l02Stroke_of E1 _ (by first | exact c1 | exact c1d) (by first | exact P1.out | exact P1.out.drew) rfl hsl).mono ?_); rintro e w' ⟨rfl, hb⟩; obtain ⟨_, hks, hkB⟩ := SB.next (by assumption) hb; obtain ⟨hkc, hkf⟩ := bcell hb; have hkz := hb.size; (try simp only [World.size_alloc, World.size_drew] at hkz); (first | (have hkt := Nat.lt_of_succ_le hkz) | (have hkt := Nat.lt_of_lt_of_le (by assumption) hkz) | skip); clear hb) | (go_at_call 65; (with_reducible refine (l02Last_any _ _ _ m _ S[j].l _ (by first | exact (hkB.cell l1).trans c4 | go_simp) (P4.out.below hkB) HM.out hmx (by omega)).mono ?_); rintro e w' ⟨rfl, hb⟩; obtain ⟨_, hks, hkB⟩ := SB.next (by assumption) hb; obtain ⟨hkc, hkf⟩ := bcell hb; have hkz := hb.size; (try simp only [World.size_alloc, World.size_drew] at hkz); (first | (have hkt := Nat.lt_of_succ_le hkz) | (have hkt := Nat.lt_of_lt_of_le (by assumption) hkz) | skip); clear hb)
            refine hK.out _ _ ?_ (fun hHeld2 => ?_)
            · (try dsimp only); (first | exact SB.mk hkB | exact SB.mk ((Below.refl _ _).drew) | (go_split_ands; refine SB.mk (Below.drew ?_); assumption) | (refine SB.mk ?_; go_grown; done) | (go_split_ands; refine SB.mk ?_; go_grown; done))
            clear hK K hHeld; have hHeld := hHeld2; clear hHeld2; (try simp only [Act.put, List.setIfInBounds_toArray, List.set_cons_zero, List.set_cons_succ])
            first | (refine take_on (i := 31) (v := ?_) rfl (by kernel_rfl) (by kernel_rfl) (by kernel_rfl) (fun _ _ _ h => h) rfl ?_ (by assumption) ?_; rotate_left; · (intro w' hSw; (try dsimp only at hSw); go_simp; (try with_reducible rfl))) | (refine take_off (i := 31) rfl (by kernel_rfl) (by kernel_rfl) (by kernel_rfl) (fun _ _ _ h => h) rfl (by assumption) ?_)
            (try simp only [Act.put, List.setIfInBounds_toArray, List.set_cons_zero, List.set_cons_succ])
            first | (refine take_on (i := 32) (v := ?_) rfl (by kernel_rfl) (by kernel_rfl) (by kernel_rfl) (fun _ _ _ h => h) rfl ?_ (by assumption) ?_; rotate_left; · (intro w' hSw; (try dsimp only at hSw); go_simp; (try with_reducible rfl))) | (refine take_off (i := 32) rfl (by kernel_rfl) (by kernel_rfl) (by kernel_rfl) (fun _ _ _ h => h) rfl (by assumption) ?_)
            (try simp only [Act.put, List.setIfInBounds_toArray, List.set_cons_zero, List.set_cons_succ])
            first | (refine take_on (i := 33) (v := ?_) rfl (by kernel_rfl) (by kernel_rfl) (by kernel_rfl) (fun _ _ _ h => h) rfl ?_ (by assumption) ?_; rotate_left; · (intro w' hSw; (try dsimp only at hSw); go_simp; (try with_reducible rfl))) | (refine take_off (i := 33) rfl (by kernel_rfl) (by kernel_rfl) (by kernel_rfl) (fun _ _ _ h => h) rfl (by assumption) ?_)
            (try simp only [Act.put, List.setIfInBounds_toArray, List.set_cons_zero, List.set_cons_succ])
            refine wpAnyH_done (by kernel_rfl) ?_ _
            go_split_ands
            go_wp2_with fail
            go_ret
            exact ⟨ret_bool (inkB_no hno.out), Below.next hB (by assumption)⟩
    · have hall : Hid (ikAll (ptsOf S) = true) := ikAll_true hto.out (by have := LA.out; omega)
      cases e2 : decide (n ≤ 16)
      all_goals go_wp2_with fail
      all_goals
        go_ret
        refine ⟨ret_bool ?_, hW⟩
        rw [← inkB_len hall.out LA.out]
        simp only [decide_eq_true_eq, decide_eq_false_iff_not] at e2
        rw [Bool.eq_iff_iff]
        simp
        try omega

end Go.Proofs.Ytnmmnikoogjhoaa
