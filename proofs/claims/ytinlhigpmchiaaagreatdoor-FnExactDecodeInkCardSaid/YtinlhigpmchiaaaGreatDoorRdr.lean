/-
  Reading bits: the reader in memory, and a number in some bits, as program and reference read it.
-/
import Derived.Test.YtinlhigpmchiaaaGreatDoorDecP
import Derived.Test.YtinlhigpmchiaaaGreatDoorBuilder
namespace Go.Proofs.YtinlhigpmchiaaaGreatDoor
set_option linter.unusedSimpArgs false
set_option linter.unusedVariables false
set_option maxRecDepth 20000
open Go.RowKit
open Go.ChangeShapes Go.WideShapes Go.Deep Go.Joins

theorem Apart.mono {b base base' : Nat} {w w' : World} (h : Apart b base w w') (hB : base' ≤ base) : Apart b base' w w' :=
  ⟨h.os, h.tape, h.output, h.size, fun k hk hn => h.block k (Nat.lt_of_lt_of_le hk hB) hn⟩
theorem Apart.bk {b base : Nat} {w w' : World} {g : Nat} {t : TypeId} {cs : Array Value} (h : Apart b base w w') (hk : Bk w g t cs) (hg : g < base) (hn : g ≠ b) : Bk w' g t cs := (h.block g hg hn).trans hk
theorem Apart.own {α : Type} {f : α → List Value} {E : TypeId} {size : Nat} {b base lo : Nat} {w w' : World} {v : Value} {l : List α} (h : Apart b base w w') (ho : Own f E size w lo v l) (hk : ∀ k, v.ownBlock = some k → k < base ∧ k ≠ b) : Own f E size w' lo v l :=
  ho.of_block fun k h1 => h.block k (hk k h1).1 (hk k h1).2
theorem Apart.next {b : Nat} {x y z : World} (h : Apart b x.heap.size x y) (k : Apart b y.heap.size y z) : Apart b x.heap.size x z := h.trans (k.mono h.size)
theorem Apart.set {b base : Nat} {w w' : World} (h : Apart b base w w') (o : Nat) (u : Value) : Apart b base w (w'.setCell ⟨b, o, none⟩ u) := by
  have h0 : Below 0 w' (w'.setCell ⟨b, o, none⟩ u) := (Below.refl 0 w').setCell (Nat.zero_le _) u
  exact h.trans ⟨h0.os, h0.tape, h0.output, h0.size, fun k _ hn => Below.heap_setCell w' ⟨b, o, none⟩ u k hn⟩
theorem Apart.drew {b base : Nat} {w w' : World} (h : Apart b base w w') : Apart b base w w'.drew := ⟨h.os, h.tape, h.output, h.size, h.block⟩
theorem bk3 {w : World} {g : Nat} {t : TypeId} {a b c : Value} (h : Bk w g t #[a, b, c]) : (w.cell? ⟨g, 0, none⟩ = some a ∧ w.frozen? ⟨g, 0, none⟩ = false) ∧ (w.cell? ⟨g, 1, none⟩ = some b ∧ w.frozen? ⟨g, 1, none⟩ = false) ∧ w.cell? ⟨g, 2, none⟩ = some c ∧ w.frozen? ⟨g, 2, none⟩ = false :=
  ⟨⟨h.cell 0, h.frozen 0⟩, ⟨h.cell 1, h.frozen 1⟩, h.cell 2, h.frozen 2⟩


set_option maxHeartbeats 2000000 in
theorem inum_bad (b : Nat) (s : ByteArray) (a n : Nat) (w : World) (hb : Bk w b 49 #[.string s, .int .i64 (a : Int), .bool true]) :
    Calls Tryz.prog 18 #[.pointer (some ⟨b, 0, none⟩), .int .i64 (n : Int)] w fun e w' => e = .returned (.int .i64 0) ∧ Bk w' b 49 #[.string s, .int .i64 (a : Int), .bool true] ∧ Apart b w.heap.size w w' := by
  have HB1 := Lib.hid hb
  obtain ⟨⟨c0, f0⟩, ⟨c1, f1⟩, c2, f2⟩ := bk3 hb
  have hlt := hb.lt
  clear hb
  go_enter Tryz.func18, Tryz.ntmps18
  go_wp2_with fail
  go_quiet (fail)
  go_wp2_with fail
  refine bodyPost_ret (by simp [results, Tryz.results18, go_sem, *]; try rfl) rfl ?_
  exact ⟨rfl, (HB1.out.below (below_drewN (Below.refl _ _) _) hlt).put 2 (.bool true), (Apart.of_below (below_drewN (Below.refl _ _) _)).set _ _⟩
set_option maxHeartbeats 2000000 in
theorem inum_no (b : Nat) (s : ByteArray) (a n : Nat) (w : World) (hb : Bk w b 49 #[.string s, .int .i64 (a : Int), .bool false]) (hs : s.size ≤ 8388608) (ha : a ≤ s.size) (hn : n ≤ 8) (h : ¬ a + n ≤ s.size) :
    Calls Tryz.prog 18 #[.pointer (some ⟨b, 0, none⟩), .int .i64 (n : Int)] w fun e w' => e = .returned (.int .i64 0) ∧ Bk w' b 49 #[.string s, .int .i64 (a : Int), .bool true] ∧ Apart b w.heap.size w w' := by
  have HB1 := Lib.hid hb
  obtain ⟨⟨c0, f0⟩, ⟨c1, f1⟩, c2, f2⟩ := bk3 hb
  have hlt := hb.lt
  clear hb
  have hw1 : IntKind.i64.wrap ((s.size : Int) - (a : Int)) = (s.size : Int) - (a : Int) := IntWalk.i64_in _ (by omega)
  have hcut : (s.size : Int) - (a : Int) < (n : Int) := by omega
  go_enter Tryz.func18, Tryz.ntmps18
  go_wp2_with fail
  go_quiet (fail)
  go_wp2_with fail
  refine bodyPost_ret (by simp [results, Tryz.results18, go_sem, *]; try rfl) rfl ?_
  exact ⟨rfl, (HB1.out.below (below_drewN (Below.refl _ _) _) hlt).put 2 (.bool true), (Apart.of_below (below_drewN (Below.refl _ _) _)).set _ _⟩
set_option maxHeartbeats 2000000 in
theorem inum_yes (b : Nat) (s : ByteArray) (a n v t : Nat) (w : World) (hb : Bk w b 49 #[.string s, .int .i64 (a : Int), .bool false]) (hs : s.size ≤ 8388608) (hall : Hid (s.data.toList.all isBit = true)) (hn : n ≤ 8) (h : numO s a n = some (v, t)) :
    Calls Tryz.prog 18 #[.pointer (some ⟨b, 0, none⟩), .int .i64 (n : Int)] w fun e w' => e = .returned (.int .i64 (v : Int)) ∧ Bk w' b 49 #[.string s, .int .i64 (t : Int), .bool false] ∧ Apart b w.heap.size w w' := by
  have HB1 := Lib.hid hb
  obtain ⟨⟨c0, f0⟩, ⟨c1, f1⟩, c2, f2⟩ := bk3 hb
  have hlt := hb.lt
  clear hb
  obtain ⟨_, ht, hts⟩ := numO_is hall.out h
  have hfit : a + n ≤ s.size := by omega
  have hv : Hid (valAt s a n = v) := by
    rw [numO_yes hfit] at h
    injection h with h
    exact (Prod.mk.inj h).1
  have HT : Hid (a + n = t) := ht
  have hti : (a : Int) + (n : Int) = (t : Int) := by omega
  have HSUB := Lib.hid (readNumber_at s hs hall a n v hfit (by omega) hv)
  clear h ht
  have hw1 : IntKind.i64.wrap ((s.size : Int) - (a : Int)) = (s.size : Int) - (a : Int) := IntWalk.i64_in _ (by omega)
  have hfit2 : ¬ (s.size : Int) - (a : Int) < (n : Int) := by omega
  have hcut : decide ((s.size : Int) - (a : Int) < (n : Int)) = false := decide_eq_false hfit2
  go_enter Tryz.func18, Tryz.ntmps18
  go_wp2_with fail
  go_quiet (fail)
  go_wp2_with fail
  go_quiet ((go_at_call 37; first | with_reducible exact quiet_mine (HSUB.out _) | with_reducible exact quiet_mine2 (HSUB.out _)))
  go_wp2_with fail
  refine bodyPost_ret (by simp [results, Tryz.results18, go_sem, *]; try rfl) rfl ?_
  exact ⟨rfl, (HB1.out.below (below_drewN (Below.refl _ _) _) hlt).put 1 (.int .i64 (t : Int)), (Apart.of_below (below_drewN (Below.refl _ _) _)).set _ _⟩

set_option maxHeartbeats 2000000 in
theorem snum_bad (b : Nat) (s : ByteArray) (a n : Nat) (w : World) (hb : Bk w b 34 #[.string s, .int .i64 (a : Int), .bool true]) :
    Calls Tryz.prog 11 #[.pointer (some ⟨b, 0, none⟩), .int .i64 (n : Int)] w fun e w' => e = .returned (.int .i64 0) ∧ Bk w' b 34 #[.string s, .int .i64 (a : Int), .bool true] ∧ Apart b w.heap.size w w' := by
  have HB1 := Lib.hid hb
  obtain ⟨⟨c0, f0⟩, ⟨c1, f1⟩, c2, f2⟩ := bk3 hb
  have hlt := hb.lt
  clear hb
  go_enter Tryz.func11, Tryz.ntmps11
  go_wp2_with fail
  go_quiet (fail)
  go_wp2_with fail
  refine bodyPost_ret (by simp [results, Tryz.results11, go_sem, *]; try rfl) rfl ?_
  exact ⟨rfl, (HB1.out.below (below_drewN (Below.refl _ _) _) hlt).put 2 (.bool true), (Apart.of_below (below_drewN (Below.refl _ _) _)).set _ _⟩
set_option maxHeartbeats 2000000 in
theorem snum_no (b : Nat) (s : ByteArray) (a n : Nat) (w : World) (hb : Bk w b 34 #[.string s, .int .i64 (a : Int), .bool false]) (hs : s.size ≤ 8388608) (ha : a ≤ s.size) (hn : n ≤ 8) (h : ¬ a + n ≤ s.size) :
    Calls Tryz.prog 11 #[.pointer (some ⟨b, 0, none⟩), .int .i64 (n : Int)] w fun e w' => e = .returned (.int .i64 0) ∧ Bk w' b 34 #[.string s, .int .i64 (a : Int), .bool true] ∧ Apart b w.heap.size w w' := by
  have HB1 := Lib.hid hb
  obtain ⟨⟨c0, f0⟩, ⟨c1, f1⟩, c2, f2⟩ := bk3 hb
  have hlt := hb.lt
  clear hb
  have hcut : (a : Int) + (n : Int) > (s.size : Int) := by omega
  go_enter Tryz.func11, Tryz.ntmps11
  go_wp2_with fail
  go_quiet (fail)
  go_wp2_with fail
  refine bodyPost_ret (by simp [results, Tryz.results11, go_sem, *]; try rfl) rfl ?_
  exact ⟨rfl, (HB1.out.below (below_drewN (Below.refl _ _) _) hlt).put 2 (.bool true), (Apart.of_below (below_drewN (Below.refl _ _) _)).set _ _⟩
set_option maxHeartbeats 2000000 in
theorem snum_yes (b : Nat) (s : ByteArray) (a n v t : Nat) (w : World) (hb : Bk w b 34 #[.string s, .int .i64 (a : Int), .bool false]) (hs : s.size ≤ 8388608) (hall : Hid (s.data.toList.all isBit = true)) (hn : n ≤ 8) (h : numO s a n = some (v, t)) :
    Calls Tryz.prog 11 #[.pointer (some ⟨b, 0, none⟩), .int .i64 (n : Int)] w fun e w' => e = .returned (.int .i64 (v : Int)) ∧ Bk w' b 34 #[.string s, .int .i64 (t : Int), .bool false] ∧ Apart b w.heap.size w w' := by
  have HB1 := Lib.hid hb
  obtain ⟨⟨c0, f0⟩, ⟨c1, f1⟩, c2, f2⟩ := bk3 hb
  have hlt := hb.lt
  clear hb
  obtain ⟨_, ht, hts⟩ := numO_is hall.out h
  have hfit : a + n ≤ s.size := by omega
  have hv : Hid (valAt s a n = v) := by
    rw [numO_yes hfit] at h
    injection h with h
    exact (Prod.mk.inj h).1
  have HT : Hid (a + n = t) := ht
  have hti : (a : Int) + (n : Int) = (t : Int) := by omega
  have HSUB := Lib.hid (l04Value_at s hs hall a t n v HT hts (by omega) hv)
  clear h ht
  have hfit2 : ¬ (t : Int) > (s.size : Int) := by omega
  have hcut : decide ((t : Int) > (s.size : Int)) = false := decide_eq_false hfit2
  go_enter Tryz.func11, Tryz.ntmps11
  go_wp2_with fail
  go_quiet (fail)
  go_wp2_with fail
  go_quiet ((go_at_call 25; first | with_reducible exact quiet_mine (HSUB.out _) | with_reducible exact quiet_mine2 (HSUB.out _)))
  go_wp2_with fail
  refine bodyPost_ret (by simp [results, Tryz.results11, go_sem, *]; try rfl) rfl ?_
  exact ⟨rfl, (HB1.out.below (below_drewN (Below.refl _ _) _) hlt).put 1 (.int .i64 (t : Int)), (Apart.of_below (below_drewN (Below.refl _ _) _)).set _ _⟩

/-- how a reading ends: good, the reader behind what it read; or broken (from the first, or here) -/
def Got {α : Type} (o : Option (α × Nat)) (f : Bool) (x : α) (a : Nat) (g : Bool) : Prop := (f = false ∧ g = false ∧ o = some (x, a)) ∨ (g = true ∧ (f = true ∨ o = none))
theorem Got.good {α : Type} {o : Option (α × Nat)} {f : Bool} {x : α} {a : Nat} (h : Got o f x a false) : f = false ∧ o = some (x, a) := by
  rcases h with ⟨h1, _, h2⟩ | ⟨h1, _⟩
  · exact ⟨h1, h2⟩
  · cases h1
theorem Got.bad {α : Type} {o : Option (α × Nat)} {f : Bool} {x : α} {a : Nat} (h : Got o f x a true) : f = true ∨ o = none := by
  rcases h with ⟨_, h1, _⟩ | ⟨_, h1⟩
  · cases h1
  · exact h1
theorem inum_any (b : Nat) (s : ByteArray) (a n : Nat) (f : Bool) (w : World) (hb : Bk w b 49 #[.string s, .int .i64 (a : Int), .bool f]) (hs : s.size ≤ 8388608) (hall : Hid (s.data.toList.all isBit = true)) (ha : a ≤ s.size) (hn : n ≤ 8) :
    Calls Tryz.prog 18 #[.pointer (some ⟨b, 0, none⟩), .int .i64 (n : Int)] w fun e w' => ∃ (v t : Nat) (g : Bool), e = .returned (.int .i64 (v : Int)) ∧ Bk w' b 49 #[.string s, .int .i64 (t : Int), .bool g] ∧ v < 256 ∧ t ≤ s.size ∧ Apart b w.heap.size w w' ∧ Got (numO s a n) f v t g := by
  cases f
  · cases h : numO s a n with
    | none =>
      have h1 : ¬ a + n ≤ s.size := fun h2 => by rw [numO_yes h2] at h; cases h
      refine (inum_no b s a n w hb hs ha hn h1).mono ?_
      rintro e w' ⟨rfl, hb2, hA⟩
      exact ⟨0, a, true, rfl, hb2, by omega, ha, hA, .inr ⟨rfl, .inr rfl⟩⟩
    | some r =>
      obtain ⟨v, t⟩ := r
      obtain ⟨h1, _, h2⟩ := numO_is hall.out h
      have h3 : 2 ^ n ≤ 2 ^ 8 := Nat.pow_le_pow_right (by omega) hn
      refine (inum_yes b s a n v t w hb hs hall hn h).mono ?_
      rintro e w' ⟨rfl, hb2, hA⟩
      exact ⟨v, t, false, rfl, hb2, by omega, h2, hA, .inl ⟨rfl, rfl, rfl⟩⟩
  · refine (inum_bad b s a n w hb).mono ?_
    rintro e w' ⟨rfl, hb2, hA⟩
    exact ⟨0, a, true, rfl, hb2, by omega, ha, hA, .inr ⟨rfl, .inl rfl⟩⟩
theorem snum_any (b : Nat) (s : ByteArray) (a n : Nat) (f : Bool) (w : World) (hb : Bk w b 34 #[.string s, .int .i64 (a : Int), .bool f]) (hs : s.size ≤ 8388608) (hall : Hid (s.data.toList.all isBit = true)) (ha : a ≤ s.size) (hn : n ≤ 8) :
    Calls Tryz.prog 11 #[.pointer (some ⟨b, 0, none⟩), .int .i64 (n : Int)] w fun e w' => ∃ (v t : Nat) (g : Bool), e = .returned (.int .i64 (v : Int)) ∧ Bk w' b 34 #[.string s, .int .i64 (t : Int), .bool g] ∧ v < 256 ∧ t ≤ s.size ∧ Apart b w.heap.size w w' ∧ Got (numO s a n) f v t g := by
  cases f
  · cases h : numO s a n with
    | none =>
      have h1 : ¬ a + n ≤ s.size := fun h2 => by rw [numO_yes h2] at h; cases h
      refine (snum_no b s a n w hb hs ha hn h1).mono ?_
      rintro e w' ⟨rfl, hb2, hA⟩
      exact ⟨0, a, true, rfl, hb2, by omega, ha, hA, .inr ⟨rfl, .inr rfl⟩⟩
    | some r =>
      obtain ⟨v, t⟩ := r
      obtain ⟨h1, _, h2⟩ := numO_is hall.out h
      have h3 : 2 ^ n ≤ 2 ^ 8 := Nat.pow_le_pow_right (by omega) hn
      refine (snum_yes b s a n v t w hb hs hall hn h).mono ?_
      rintro e w' ⟨rfl, hb2, hA⟩
      exact ⟨v, t, false, rfl, hb2, by omega, h2, hA, .inl ⟨rfl, rfl, rfl⟩⟩
  · refine (snum_bad b s a n w hb).mono ?_
    rintro e w' ⟨rfl, hb2, hA⟩
    exact ⟨0, a, true, rfl, hb2, by omega, ha, hA, .inr ⟨rfl, .inl rfl⟩⟩
end Go.Proofs.YtinlhigpmchiaaaGreatDoor
