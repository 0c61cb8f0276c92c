/-
  A compressed ink read back: the program's walk, the tests ahead.
-/
import Derived.Test.YtinlhigpmchiaaaGreatDoorDcQ
import Derived.Test.YtinlhigpmchiaaaGreatDoorDcIs
import Derived.Test.YtinlhigpmchiaaaGreatDoorSum
namespace Go.Proofs.YtinlhigpmchiaaaGreatDoor
set_option linter.unusedSimpArgs false
set_option linter.unusedVariables false
set_option maxRecDepth 20000
open Go.RowKit
open Go.ChangeShapes Go.WideShapes Go.Deep Go.Joins

set_option maxHeartbeats 4000000 in
theorem idec_head (s : ByteArray) (hs : s.size ≤ 1048576) (P : List (List Pt)) (code : Int) (N : Nat) (hR : Hid (decI s.data.toList = (P, code))) (hN : Hid (P.length = N)) (w : World)
    (h : s.data.toList.length < 5 ∨ ¬ s.data.toList.length < 5 ∧ (¬ s.data.toList.take 2 = [73, 75] ∨ s.data.toList.take 2 = [73, 75] ∧ ¬ csum (s.data.toList.take (s.data.toList.length - 2)) = sumD s.data.toList)) :
    Calls Tryz.prog 5 #[.string s] w fun e w' => ∃ (A2 : Option Addr) (c2 : Nat) (T : List St), e = .returned (.tuple #[.agg #[.slice A2 N c2], .int .i64 code]) ∧ ptsOf T = P ∧ InkOwn w' w.heap.size w'.heap.size (.slice A2 N c2) T ∧ Below w.heap.size w w' := by
  have hl : s.data.toList.length = s.size := Array.length_toList
  rcases h with h | ⟨h, h1 | ⟨h1, h3⟩⟩
  · have h2 := hR.out
    rw [decI_short h] at h2
    obtain ⟨e1, e2⟩ : [] = P ∧ _ = code := by injection h2 with e1 e2; exact ⟨e1, e2⟩
    subst e1; subst e2
    obtain rfl : 0 = N := hN.out
    clear h2
    have hsz : (s.size : Int) < 5 := by omega
    clear hl h
    go_enter Tryz.func5, Tryz.ntmps5
    go_wp2_with fail
    refine bodyPost_ret (by simp [results, Tryz.results5, go_sem, *]; try rfl) rfl ?_
    exact ⟨none, 0, [], rfl, rfl, InkOwn.nil _ _ _, by have hT9 := Below.refl w.heap.size w; go_grown⟩
  · have h2 := hR.out
    rw [decI_head h h1] at h2
    obtain ⟨e1, e2⟩ : [] = P ∧ _ = code := by injection h2 with e1 e2; exact ⟨e1, e2⟩
    subst e1; subst e2
    obtain rfl : 0 = N := hN.out
    clear h2
    have hsz : ¬ (s.size : Int) < 5 := by omega
    have HP : Hid (Lib.hasPrefix s.data.toList [73, 75] = false) := by rw [Hid, prefix_is]; exact decide_eq_false h1
    clear hl h h1
    go_enter Tryz.func5, Tryz.ntmps5
    go_wp2_with (go_at_call 15; refine (hasIK HP _).mono ?_; rintro e w' ⟨rfl, rfl⟩)
    refine bodyPost_ret (by simp [results, Tryz.results5, go_sem, *]; try rfl) rfl ?_
    exact ⟨none, 0, [], rfl, rfl, InkOwn.nil _ _ _, by have hT9 := Below.refl w.heap.size w; go_grown⟩
  · have h2 := hR.out
    rw [decI_sum h h1 h3] at h2
    obtain ⟨e1, e2⟩ : [] = P ∧ _ = code := by injection h2 with e1 e2; exact ⟨e1, e2⟩
    subst e1; subst e2
    obtain rfl : 0 = N := hN.out
    clear h2
    have hsz : ¬ (s.size : Int) < 5 := by omega
    have HP : Hid (Lib.hasPrefix s.data.toList [73, 75] = true) := by rw [Hid, prefix_is]; exact decide_eq_true h1
    obtain ⟨n, hn⟩ : ∃ n, s.size = n + 2 := ⟨s.size - 2, by omega⟩
    obtain ⟨n1, hn1e⟩ : ∃ n1, n + 1 = n1 := ⟨_, rfl⟩
    have hn0 : n < s.size := by omega
    have hn1 : n1 < s.size := by omega
    rw [hl, hn, Nat.add_sub_cancel, sum_is s hn hn1e hn0 hn1] at h3
    have h4 : (s.size : Int) - 2 = (n : Int) := by omega
    have h5 : (s.size : Int) - 1 = (n1 : Int) := by omega
    have hi0 : (n : Int) < (s.size : Int) := by omega
    have hi1 : (n1 : Int) < (s.size : Int) := by omega
    have hj0 : (0 : Int) ≤ (n : Int) := by omega
    have hj1 : (0 : Int) ≤ (n1 : Int) := by omega
    have hx0 : s[n].toNat < 256 := s[n].toNat_lt
    have hx1 : s[n1].toNat < 256 := s[n1].toNat_lt
    have HSN := Lib.hid hn
    have hcs := iChecksumOf (s.extract 0 n)
    rw [head_list] at hcs
    obtain ⟨cs, hcs0⟩ : ∃ cs, csum (s.data.toList.take n) = cs := ⟨_, rfl⟩
    rw [hcs0] at hcs h3
    have hsz2 : (s.extract 0 n).size ≤ 1048576 := by simp; omega
    have HCS := Lib.hid (fun w => hcs w hsz2)
    have hn2 : 2 ≤ n := by omega
    have hR0 := Bk.new w #[.slice none 0 0] 24
    have HR0 := Lib.hid hR0
    have hne : (((s[n].toNat : Int) * 256 + (s[n1].toNat : Int)) != cs) = true := bne_iff_ne.2 (fun e => h3 e.symm)
    clear hcs hsz2 hcs0 hl h h1 hn hn1e hR0 h3
    go_enter Tryz.func5, Tryz.ntmps5
    go_wp2_with (go_at_call 15; refine (hasIK HP _).mono ?_; rintro e w' ⟨rfl, rfl⟩)
    go_quiet (fail)
    go_wp2_with fail
    refine (HCS.out _).mono ?_
    rintro e w2 ⟨rfl, hb2⟩
    have hT2 : Below w.heap.size w w2 := Below.next (below_drewN ((Below.refl _ _).alloc (Nat.le_refl _) _) _) hb2
    have HR2 := Lib.hid ((HR0.out.below (below_drewN (Below.refl _ _) _) HR0.out.lt).next hb2)
    have hz2 : w.heap.size < w2.heap.size := HR2.out.lt
    obtain ⟨r0, fr0⟩ := bk1 HR2.out
    clear hb2
    go_wp2_with fail
    refine bodyPost_ret (by simp [results, Tryz.results5, go_sem, *]; try rfl) rfl ?_
    exact ⟨none, 0, [], rfl, rfl, InkOwn.nil _ _ _, by have hT9 := hT2; go_grown⟩

set_option maxHeartbeats 4000000 in
theorem idec_long (s : ByteArray) (hs : s.size ≤ 1048576) (P : List (List Pt)) (code : Int) (N : Nat) (hR : Hid (decI s.data.toList = (P, code))) (hN : Hid (P.length = N)) (w : World)
    (h : ¬ s.data.toList.length < 5) (h1 : s.data.toList.take 2 = [73, 75]) (h3 : csum (s.data.toList.take (s.data.toList.length - 2)) = sumD s.data.toList) (h4' : 12500 < (bodyD s.data.toList).length) :
    Calls Tryz.prog 5 #[.string s] w fun e w' => ∃ (A2 : Option Addr) (c2 : Nat) (T : List St), e = .returned (.tuple #[.agg #[.slice A2 N c2], .int .i64 code]) ∧ ptsOf T = P ∧ InkOwn w' w.heap.size w'.heap.size (.slice A2 N c2) T ∧ Below w.heap.size w w' := by
  have hl : s.data.toList.length = s.size := Array.length_toList
  have h2 := hR.out
  rw [decI_long h h1 h3 h4'] at h2
  obtain ⟨e1, e2⟩ : [] = P ∧ _ = code := by injection h2 with e1 e2; exact ⟨e1, e2⟩
  subst e1; subst e2
  obtain rfl : 0 = N := hN.out
  clear h2
  have hsz : ¬ (s.size : Int) < 5 := by omega
  have HP : Hid (Lib.hasPrefix s.data.toList [73, 75] = true) := by rw [Hid, prefix_is]; exact decide_eq_true h1
  obtain ⟨n, hn⟩ : ∃ n, s.size = n + 2 := ⟨s.size - 2, by omega⟩
  obtain ⟨n1, hn1e⟩ : ∃ n1, n + 1 = n1 := ⟨_, rfl⟩
  have hn0 : n < s.size := by omega
  have hn1 : n1 < s.size := by omega
  rw [hl, hn, Nat.add_sub_cancel, sum_is s hn hn1e hn0 hn1] at h3
  have h4 : (s.size : Int) - 2 = (n : Int) := by omega
  have h5 : (s.size : Int) - 1 = (n1 : Int) := by omega
  have hi0 : (n : Int) < (s.size : Int) := by omega
  have hi1 : (n1 : Int) < (s.size : Int) := by omega
  have hj0 : (0 : Int) ≤ (n : Int) := by omega
  have hj1 : (0 : Int) ≤ (n1 : Int) := by omega
  have hx0 : s[n].toNat < 256 := s[n].toNat_lt
  have hx1 : s[n1].toNat < 256 := s[n1].toNat_lt
  have HSN := Lib.hid hn
  have hcs := iChecksumOf (s.extract 0 n)
  rw [head_list] at hcs
  obtain ⟨cs, hcs0⟩ : ∃ cs, csum (s.data.toList.take n) = cs := ⟨_, rfl⟩
  rw [hcs0] at hcs h3
  have hsz2 : (s.extract 0 n).size ≤ 1048576 := by simp; omega
  have HCS := Lib.hid (fun w => hcs w hsz2)
  have hn2 : 2 ≤ n := by omega
  have hR0 := Bk.new w #[.slice none 0 0] 24
  have HR0 := Lib.hid hR0
  have HLNG : Hid (12500 < ((s.extract 0 n).extract 2 (min n s.size)).size ∧ ((s.extract 0 n).extract 2 (min n s.size)).size ≤ 1048576) := by rw [Hid, body_size s hn]; exact ⟨h4', by rw [bodyD_len]; omega⟩
  have hcs2 : cs = (s[n].toNat : Int) * 256 + (s[n1].toNat : Int) := h3
  subst hcs2
  clear hcs hsz2 hcs0 hl h h1 hn hn1e hR0 h3
  go_enter Tryz.func5, Tryz.ntmps5
  go_wp2_with (go_at_call 15; refine (hasIK HP _).mono ?_; rintro e w' ⟨rfl, rfl⟩)
  go_quiet (fail)
  go_wp2_with fail
  refine (HCS.out _).mono ?_
  rintro e w2 ⟨rfl, hb2⟩
  have hT2 : Below w.heap.size w w2 := Below.next (below_drewN ((Below.refl _ _).alloc (Nat.le_refl _) _) _) hb2
  have HR2 := Lib.hid ((HR0.out.below (below_drewN (Below.refl _ _) _) HR0.out.lt).next hb2)
  have hz2 : w.heap.size < w2.heap.size := HR2.out.lt
  obtain ⟨r0, fr0⟩ := bk1 HR2.out
  clear hb2
  go_wp2_with fail
  refine (iUnpack_long _ _ HLNG.out.1 HLNG.out.2).mono ?_
  rintro e w3 ⟨rfl, hb3⟩
  have hT3 : Below w.heap.size w w3 := Below.next hT2 hb3
  have HR3 := Lib.hid (HR2.out.next hb3)
  have hz3 := HR3.out.lt
  clear r0 fr0
  obtain ⟨r0, fr0⟩ := bk1 HR3.out
  go_wp2_with fail
  refine bodyPost_ret (by simp [results, Tryz.results5, go_sem, *]; try rfl) rfl ?_
  exact ⟨none, 0, [], rfl, rfl, InkOwn.nil _ _ _, by have hT9 := hT3; go_grown⟩

end Go.Proofs.YtinlhigpmchiaaaGreatDoor
