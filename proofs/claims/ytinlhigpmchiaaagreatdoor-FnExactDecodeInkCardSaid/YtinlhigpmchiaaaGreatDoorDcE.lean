/-
  A compressed ink read back: the reference's walk, the tests ahead.
-/
import Derived.Test.YtinlhigpmchiaaaGreatDoorDcQ
import Derived.Test.YtinlhigpmchiaaaGreatDoorDcSs
import Derived.Test.YtinlhigpmchiaaaGreatDoorSum
namespace Go.Proofs.YtinlhigpmchiaaaGreatDoor
set_option linter.unusedSimpArgs false
set_option linter.unusedVariables false
set_option maxRecDepth 20000
open Go.RowKit
open Go.ChangeShapes Go.WideShapes Go.Deep Go.Joins

set_option maxHeartbeats 4000000 in
theorem sdec_head (s : ByteArray) (hs : s.size ≤ 1048576) (P : List (List Pt)) (code : Int) (N : Nat) (hR : Hid (decS s.data.toList = (P, code))) (hN : Hid (P.length = N)) (w : World)
    (h : s.data.toList.length < 5 ∨ ¬ s.data.toList.length < 5 ∧ (¬ s.data.toList.take 2 = [73, 75] ∨ s.data.toList.take 2 = [73, 75] ∧ ¬ csum (s.data.toList.take (s.data.toList.length - 2)) = sumD s.data.toList)) :
    Calls Tryz.prog 4 #[.string s] w fun e w' => ∃ (A2 : Option Addr) (c2 : Nat) (T : List St), e = .returned (.tuple #[.agg #[.slice A2 N c2], .int .i64 code]) ∧ ptsOf T = P ∧ InkOwn w' w.heap.size w'.heap.size (.slice A2 N c2) T ∧ Below w.heap.size w w' := by
  have hl : s.data.toList.length = s.size := Array.length_toList
  rcases h with h | ⟨h, h1 | ⟨h1, h3⟩⟩
  · have h2 := hR.out
    rw [decS_short h] at h2
    obtain ⟨e1, e2⟩ : [] = P ∧ _ = code := by injection h2 with e1 e2; exact ⟨e1, e2⟩
    subst e1; subst e2
    obtain rfl : 0 = N := hN.out
    clear h2
    have hsz : (s.size : Int) < 5 := by omega
    clear hl h
    go_enter Tryz.func4, Tryz.ntmps4
    go_wp2_with fail
    refine bodyPost_ret (by simp [results, Tryz.results4, go_sem, *]; try rfl) rfl ?_
    first | exact ⟨none, 0, [], rfl, rfl, InkOwn.nil _ _ _, by have hT9 := Below.refl w.heap.size w; go_grown⟩ | exact ⟨none, 0, rfl, [], rfl, InkOwn.nil _ _ _, by have hT9 := Below.refl w.heap.size w; go_grown⟩
  · have h2 := hR.out
    rw [decS_head h h1] at h2
    obtain ⟨e1, e2⟩ : [] = P ∧ _ = code := by injection h2 with e1 e2; exact ⟨e1, e2⟩
    subst e1; subst e2
    obtain rfl : 0 = N := hN.out
    clear h2
    have hsz : ¬ (s.size : Int) < 5 := by omega
    have hpre : ((s.extract 0 2).toList == [73, 75]) = false := by
      rw [ByteArray.toList_eq, head_list]
      simpa using h1
    clear hl h h1
    go_enter Tryz.func4, Tryz.ntmps4
    go_wp2_with fail
    refine bodyPost_ret (by simp [results, Tryz.results4, go_sem, *]; try rfl) rfl ?_
    first | exact ⟨none, 0, [], rfl, rfl, InkOwn.nil _ _ _, by have hT9 := Below.refl w.heap.size w; go_grown⟩ | exact ⟨none, 0, rfl, [], rfl, InkOwn.nil _ _ _, by have hT9 := Below.refl w.heap.size w; go_grown⟩
  · have h2 := hR.out
    rw [decS_sum h h1 h3] at h2
    obtain ⟨e1, e2⟩ : [] = P ∧ _ = code := by injection h2 with e1 e2; exact ⟨e1, e2⟩
    subst e1; subst e2
    obtain rfl : 0 = N := hN.out
    clear h2
    have hsz : ¬ (s.size : Int) < 5 := by omega
    have hpre : ((s.extract 0 2).toList == [73, 75]) = true := by
      rw [ByteArray.toList_eq, head_list]
      simpa using h1
    obtain ⟨n, hn⟩ : ∃ n, s.size = n + 2 := ⟨s.size - 2, by omega⟩
    obtain ⟨n1, hn1e⟩ : ∃ n1, n + 1 = n1 := ⟨_, rfl⟩
    have hn0 : n < s.size := by omega
    have hn1 : n1 < s.size := by omega
    rw [hl, hn, Nat.add_sub_cancel, sum_is s hn hn1e hn0 hn1] at h3
    have h4 : (s.size : Int) - 2 = (n : Int) := by omega
    have h5 : (s.size : Int) - 1 = (n1 : Int) := by omega
    have hi0 : (n : Int) < (s.size : Int) := by omega
    have hi1 : (n1 : Int) < (s.size : Int) := by omega
    have hj0 : (0 : Int) ≤ (n : Int) := by omega
    have hj1 : (0 : Int) ≤ (n1 : Int) := by omega
    have hx0 : s[n].toNat < 256 := s[n].toNat_lt
    have hx1 : s[n1].toNat < 256 := s[n1].toNat_lt
    have HSN := Lib.hid hn
    have hcs := fun w hz => l04Sum_any (s.extract 0 n) w hz
    rw [head_list] at hcs
    obtain ⟨cs, hcs0⟩ : ∃ cs, csum (s.data.toList.take n) = cs := ⟨_, rfl⟩
    rw [hcs0] at hcs h3
    have hsz2 : (s.extract 0 n).size ≤ 1048576 := by simp; omega
    have HCS := Lib.hid (fun w => hcs w hsz2)
    have hn2 : 2 ≤ n := by omega
    have hR0 := Bk.new w #[.slice none 0 0] 24
    have HR0 := Lib.hid hR0
    have hne : (cs != ((s[n].toNat : Int) * 256 + (s[n1].toNat : Int))) = true := bne_iff_ne.2 h3
    clear hcs hsz2 hcs0 hl h h1 hn hn1e hR0 h3
    go_enter Tryz.func4, Tryz.ntmps4
    go_wp2_with fail
    go_quiet ((go_at_call 9; first | with_reducible exact quiet_mine (HCS.out _) | with_reducible exact quiet_mine2 (HCS.out _)))
    go_wp2_with fail
    refine bodyPost_ret (by simp [results, Tryz.results4, go_sem, *]; try rfl) rfl ?_
    first | exact ⟨none, 0, [], rfl, rfl, InkOwn.nil _ _ _, ((below_drewN ((Below.refl w.heap.size w).alloc (Nat.le_refl _) _) _)).setCell (Nat.le_refl _) _⟩ | exact ⟨none, 0, rfl, [], rfl, InkOwn.nil _ _ _, ((below_drewN ((Below.refl w.heap.size w).alloc (Nat.le_refl _) _) _)).setCell (Nat.le_refl _) _⟩
end Go.Proofs.YtinlhigpmchiaaaGreatDoor
