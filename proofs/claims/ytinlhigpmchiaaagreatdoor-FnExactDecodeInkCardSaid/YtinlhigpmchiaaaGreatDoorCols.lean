/-
  The three columns of a stroke: program and reference.
-/
import Derived.Test.YtinlhigpmchiaaaGreatDoorEncP
namespace Go.Proofs.YtinlhigpmchiaaaGreatDoor
set_option linter.unusedSimpArgs false
set_option linter.unusedVariables false
set_option maxRecDepth 20000
open Go.RowKit
open Go.ChangeShapes Go.WideShapes Go.Deep Go.Joins

/-- three rows of one's own, apart -/
structure Cols (w : World) (base : Nat) (u0 u1 u2 : Value) (X Y T : List Int) : Prop where
  a : Own iC 2 1 w base u0 X
  b : Own iC 2 1 w base u1 Y
  c : Own iC 2 1 w base u2 T
  ab : ∀ g, u0.ownBlock = some g → u1.ownBlock ≠ some g
  ac : ∀ g, u0.ownBlock = some g → u2.ownBlock ≠ some g
  bc : ∀ g, u1.ownBlock = some g → u2.ownBlock ≠ some g
theorem Cols.alloc {w : World} {base : Nat} {u0 u1 u2 : Value} {X Y T : List Int} (h : Cols w base u0 u1 u2 X Y T) (o : Obj) : Cols (w.alloc o) base u0 u1 u2 X Y T :=
  ⟨h.a.alloc o, h.b.alloc o, h.c.alloc o, h.ab, h.ac, h.bc⟩
theorem Cols.setCell {w : World} {base : Nat} {u0 u1 u2 : Value} {X Y T : List Int} (h : Cols w base u0 u1 u2 X Y T) (a : Addr) (u : Value) (ha : a.block < base) : Cols (w.setCell a u) base u0 u1 u2 X Y T :=
  ⟨h.a.setCell a u (fun k hk => by have := (h.a.lt k hk).1; omega), h.b.setCell a u (fun k hk => by have := (h.b.lt k hk).1; omega), h.c.setCell a u (fun k hk => by have := (h.c.lt k hk).1; omega), h.ab, h.ac, h.bc⟩
theorem Cols.mono {w : World} {base b' : Nat} {u0 u1 u2 : Value} {X Y T : List Int} (h : Cols w base u0 u1 u2 X Y T) (hb : b' ≤ base) : Cols w b' u0 u1 u2 X Y T :=
  ⟨h.a.mono hb, h.b.mono hb, h.c.mono hb, h.ab, h.ac, h.bc⟩
theorem ob_some (g m cap : Nat) : (Value.slice (some ⟨g, 0, none⟩) m cap).ownBlock = some g := rfl
theorem Cols.pushA {w w' : World} {base g m cap : Nat} {u0 u1 u2 : Value} {X X' Y T : List Int} (h : Cols w base u0 u1 u2 X Y T) (ho : Own iC 2 1 w' base (.slice (some ⟨g, 0, none⟩) m cap) X')
    (hg : w.grownBy w' u0.ownBlock) (hat : u0.ownBlock = some g ∨ g = w.heap.size) : Cols w' base (.slice (some ⟨g, 0, none⟩) m cap) u1 u2 X' Y T := by
  refine ⟨ho, h.b.kept hg (fun k hk e => h.ab k e.symm hk), h.c.kept hg (fun k hk e => h.ac k e.symm hk), ?_, ?_, h.bc⟩
  · intro k hk e
    rw [ob_some] at hk; cases hk
    rcases hat with h1 | h1
    · exact h.ab g h1 e
    · have := (h.b.lt g e).2; omega
  · intro k hk e
    rw [ob_some] at hk; cases hk
    rcases hat with h1 | h1
    · exact h.ac g h1 e
    · have := (h.c.lt g e).2; omega
theorem Cols.pushB {w w' : World} {base g m cap : Nat} {u0 u1 u2 : Value} {X Y Y' T : List Int} (h : Cols w base u0 u1 u2 X Y T) (ho : Own iC 2 1 w' base (.slice (some ⟨g, 0, none⟩) m cap) Y')
    (hg : w.grownBy w' u1.ownBlock) (hat : u1.ownBlock = some g ∨ g = w.heap.size) : Cols w' base u0 (.slice (some ⟨g, 0, none⟩) m cap) u2 X Y' T := by
  refine ⟨h.a.kept hg (fun k hk e => h.ab k hk e.symm), ho, h.c.kept hg (fun k hk e => h.bc k e.symm hk), ?_, h.ac, ?_⟩
  · intro k hk e
    rw [ob_some] at e; cases e
    rcases hat with h1 | h1
    · exact h.ab g hk h1
    · have := (h.a.lt g hk).2; omega
  · intro k hk e
    rw [ob_some] at hk; cases hk
    rcases hat with h1 | h1
    · exact h.bc g h1 e
    · have := (h.c.lt g e).2; omega
theorem Cols.pushC {w w' : World} {base g m cap : Nat} {u0 u1 u2 : Value} {X Y T T' : List Int} (h : Cols w base u0 u1 u2 X Y T) (ho : Own iC 2 1 w' base (.slice (some ⟨g, 0, none⟩) m cap) T')
    (hg : w.grownBy w' u2.ownBlock) (hat : u2.ownBlock = some g ∨ g = w.heap.size) : Cols w' base u0 u1 (.slice (some ⟨g, 0, none⟩) m cap) X Y T' := by
  refine ⟨h.a.kept hg (fun k hk e => h.ac k hk e.symm), h.b.kept hg (fun k hk e => h.bc k hk e.symm), ho, h.ab, ?_, ?_⟩
  · intro k hk e
    rw [ob_some] at e; cases e
    rcases hat with h1 | h1
    · exact h.ac g hk h1
    · have := (h.a.lt g hk).2; omega
  · intro k hk e
    rw [ob_some] at e; cases e
    rcases hat with h1 | h1
    · exact h.bc g hk h1
    · have := (h.b.lt g hk).2; omega
theorem col_next (l : List Pt) (i : Nat) {k : Nat} (h : k < l.length) : ∃ h2 : k < (colOf l i).length, (colOf l i).take (k + 1) = (colOf l i).take k ++ [(colOf l i)[k]] := by
  have h2 : k < (colOf l i).length := by rw [colOf_len]; exact h
  exact ⟨h2, List.take_succ_eq_append_getElem h2⟩
theorem col_at0 (l : List Pt) {k : Nat} (h : k < l.length) (h2 : k < (colOf l 0).length) : (colOf l 0)[k] = l[k].x := by simp [colOf]
theorem col_at1 (l : List Pt) {k : Nat} (h : k < l.length) (h2 : k < (colOf l 1).length) : (colOf l 1)[k] = l[k].y := by simp [colOf]
theorem col_at2 (l : List Pt) {k : Nat} (h : k < l.length) (h2 : k < (colOf l 2).length) : (colOf l 2)[k] = l[k].t := by simp [colOf]
def colTk (l : List Pt) (i k : Nat) : List Int := (colOf l i).take k
theorem colTk_zero (l : List Pt) (i : Nat) : colTk l i 0 = [] := List.take_zero
theorem colTk_all {l : List Pt} {i k : Nat} (h : l.length ≤ k) : colTk l i k = colOf l i := List.take_of_length_le (by rw [colOf_len]; exact h)
theorem colTk_len {l : List Pt} {i k : Nat} (h : k ≤ l.length) : (colTk l i k).length = k := by unfold colTk; rw [List.length_take, colOf_len]; omega
theorem colTk_n0 {l : List Pt} {k : Nat} (h : k < l.length) : colTk l 0 (k + 1) = colTk l 0 k ++ [l[k].x] := by
  obtain ⟨h2, h3⟩ := col_next l 0 h
  unfold colTk; rw [h3, col_at0 l h]
theorem colTk_n1 {l : List Pt} {k : Nat} (h : k < l.length) : colTk l 1 (k + 1) = colTk l 1 k ++ [l[k].y] := by
  obtain ⟨h2, h3⟩ := col_next l 1 h
  unfold colTk; rw [h3, col_at1 l h]
theorem colTk_n2 {l : List Pt} {k : Nat} (h : k < l.length) : colTk l 2 (k + 1) = colTk l 2 k ++ [l[k].t] := by
  obtain ⟨h2, h3⟩ := col_next l 2 h
  unfold colTk; rw [h3, col_at2 l h]

set_option maxHeartbeats 8000000 in
theorem columns_any (A : Option Addr) (n c : Nat) (xs : List Pt) (w : World) (ha : Rd w A n 3 (rowOf ptC xs)) (la : xs.length = n) (hn : n ≤ 60) :
    Calls Tryz.prog 42 #[.agg #[.slice A n c]] w fun e w' => (∃ A0 c0 A1 c1 A2 c2, e = .returned (.agg #[.slice A0 n c0, .slice A1 n c1, .slice A2 n c2]) ∧ Cols w' w.heap.size (.slice A0 n c0) (.slice A1 n c1) (.slice A2 n c2) (colOf xs 0) (colOf xs 1) (colOf xs 2)) ∧ Below w.heap.size w w' := by
  have HA := Lib.hid ha
  have LA := Lib.hid la
  clear ha la
  go_enter Tryz.func42, Tryz.ntmps42
  go_wp2_with fail
  obtain ⟨B, hBe⟩ : ∃ B, w.heap.size + 1 + 1 = B := ⟨_, rfl⟩
  have hbk0 := Bk.new2 w (.cells #[.slice A n c] 38) (.cells #[.slice none 0 0, .slice none 0 0, .slice none 0 0] 76) #[.slice none 0 0, .slice none 0 0, .slice none 0 0] 76
  have hbr0 := (Bk.new1 w (.cells #[.slice A n c] 38) #[.slice none 0 0, .slice none 0 0, .slice none 0 0] 76).alloc (.cells #[.slice none 0 0, .slice none 0 0, .slice none 0 0] 76)
  have hB0 : Below w.heap.size w (((w.alloc (.cells #[.slice A n c] 38)).alloc (.cells #[.slice none 0 0, .slice none 0 0, .slice none 0 0] 76)).alloc (.cells #[.slice none 0 0, .slice none 0 0, .slice none 0 0] 76)) := by go_grown
  have hsz0 : (((w.alloc (.cells #[.slice A n c] 38)).alloc (.cells #[.slice none 0 0, .slice none 0 0, .slice none 0 0] 76)).alloc (.cells #[.slice none 0 0, .slice none 0 0, .slice none 0 0] 76)).heap.size = B + 1 := by simp only [World.size_alloc]; omega
  rw [hBe] at hbk0
  rw [hBe]
  generalize (((w.alloc (.cells #[.slice A n c] 38)).alloc (.cells #[.slice none 0 0, .slice none 0 0, .slice none 0 0] 76)).alloc (.cells #[.slice none 0 0, .slice none 0 0, .slice none 0 0] 76)) = W0 at hbk0 hbr0 hB0 hsz0 ⊢
  go_loopw [9] (fun i wr => ∃ (k : Nat) (u0 u1 u2 : Value), k ≤ n ∧ i = .int .i64 (k : Int) ∧ Bk wr B 76 #[u0, u1, u2] ∧ Bk wr (w.heap.size + 1) 76 #[.slice none 0 0, .slice none 0 0, .slice none 0 0] ∧ Cols wr (B + 1) u0 u1 u2 (colTk xs 0 k) (colTk xs 1 k) (colTk xs 2 k) ∧ Below w.heap.size w wr ∧ B + 1 ≤ wr.heap.size) (fun i _ => n - (intOf i).toNat)
  case atStart =>
    refine ⟨0, _, _, _, Nat.zero_le _, rfl, hbk0, hbr0, ?_, hB0, by omega⟩
    rw [colTk_zero, colTk_zero, colTk_zero]
    exact ⟨Own.nil _ _ _ _ _, Own.nil _ _ _ _ _, Own.nil _ _ _ _ _, by simp [Value.ownBlock], by simp [Value.ownBlock], by simp [Value.ownBlock]⟩
  case round =>
    clear hbk0 hbr0 hB0 hsz0
    obtain ⟨k, u0, u1, u2, hk, rfl, hbk, hbr, hcols, hB, hsz⟩ := hrel
    have hBs := hB.size
    have HC := Lib.hid hcols
    have HR := Lib.hid hbr
    have HK := Lib.hid hbk
    clear hcols hbr hbk
    by_cases hlt : k < n
    · have ka : k < xs.length := by rw [LA.out]; exact hlt
      obtain ⟨b3, o3, e3, l3, a1, a2, a3⟩ := (HA.out.below hB).pt LA.out ka
      have hn0 := Lib.hid (colTk_n0 ka)
      have hn1 := Lib.hid (colTk_n1 ka)
      have hn2 := Lib.hid (colTk_n2 ka)
      have hl0 : Hid ((colTk xs 0 k).length = k) := colTk_len (Nat.le_of_lt ka)
      have hl1 : Hid ((colTk xs 1 k).length = k) := colTk_len (Nat.le_of_lt ka)
      have hl2 : Hid ((colTk xs 2 k).length = k) := colTk_len (Nat.le_of_lt ka)
      obtain ⟨px, hpx⟩ : ∃ z, xs[k].x = z := ⟨_, rfl⟩
      obtain ⟨py, hpy⟩ : ∃ z, xs[k].y = z := ⟨_, rfl⟩
      obtain ⟨pt, hpt⟩ : ∃ z, xs[k].t = z := ⟨_, rfl⟩
      rw [hpx] at a1 hn0
      rw [hpy] at a2 hn1
      rw [hpt] at a3 hn2
      have hk0 : (0 : Int) ≤ (k : Int) := by omega
      have hkn : (k : Int) < (n : Int) := by omega
      rw [e3]
      clear e3 hpx hpy hpt
      go_upto_region 5 with fail
      have hP1 : Bk (wr.alloc (.cells #[.int .i64 px, .int .i64 py, .int .i64 pt] 58)) wr.heap.size 58 #[.int .i64 px, .int .i64 py, .int .i64 pt] := Bk.new wr _ _
      have hK1 := HK.out.alloc (.cells #[.int .i64 px, .int .i64 py, .int .i64 pt] 58)
      have HC1 := Lib.hid (HC.out.alloc (.cells #[.int .i64 px, .int .i64 py, .int .i64 pt] 58))
      have hB1 : Below w.heap.size w (wr.alloc (.cells #[.int .i64 px, .int .i64 py, .int .i64 pt] 58)) := hB.alloc hBs _
      have HR1 := Lib.hid (HR.out.alloc (.cells #[.int .i64 px, .int .i64 py, .int .i64 pt] 58))
      have hz1 : (wr.alloc (.cells #[.int .i64 px, .int .i64 py, .int .i64 pt] 58)).heap.size = wr.heap.size + 1 := by simp
      obtain ⟨p, hp⟩ : ∃ p, wr.heap.size = p := ⟨_, rfl⟩
      have hua : ∀ b, u0.ownBlock = some b → b < p := fun b hb => by have := (HC.out.a.lt b hb).2; omega
      have hub : ∀ b, u1.ownBlock = some b → b < p := fun b hb => by have := (HC.out.b.lt b hb).2; omega
      have huc : ∀ b, u2.ownBlock = some b → b < p := fun b hb => by have := (HC.out.c.lt b hb).2; omega
      rw [hp] at hP1 hz1
      rw [hp]
      generalize (wr.alloc (.cells #[.int .i64 px, .int .i64 py, .int .i64 pt] 58)) = W1 at hP1 hK1 HC1 hB1 HR1 hz1 ⊢
      clear hz1
      clear a1 a2 a3 HC HR HK hB hBs l3
      have q00 : W1.cell? ⟨B, 0, none⟩ = some u0 := hK1.cell 0
      have r00 : W1.cell? ⟨p, 0, none⟩ = some (.int .i64 px) := hP1.cell 0
      have hgp1 := hP1.lt
      have hgb1 := hK1.lt
      have hlow1 : ∀ b, u0.ownBlock = some b → B + 1 ≤ b := fun b hb => (HC1.out.a.lt b hb).1
      go_upto_region 6 with (at_builtin; refine list_push elem_int (by rfl) (.tmp 14) (.tmp 17) 55 (by rfl) Tryz.underlying55 (B + 1) _ (colTk xs 0 k) px (by rfl) (HC1.out.a.alloc _) k hl0.out W1.heap.size 1 (by rfl) (fun i u hu => ((Bk.new W1 #[.int .i64 px] 2).cell i).trans (by simpa [iC] using hu)) (by unfold maxLen; omega) (by omega) (by simp only [World.size_alloc]; omega) ?_; intro g5 cap5 w5 hown5 hgrow5 hat5 hlt5 hkeep5; have hK5 : Bk w5 B 76 #[u0, u1, u2] := (hgrow5.block _ (by simp only [World.size_alloc]; omega) (fun e => by have h2 := hlow1 _ e.symm; omega)).trans (hK1.alloc _); have hP5 : Bk w5 p 58 #[.int .i64 px, .int .i64 py, .int .i64 pt] := (hgrow5.block _ (by simp only [World.size_alloc]; omega) (fun e => by have h2 := hua _ e.symm; omega)).trans (hP1.alloc _); have hR5 : Bk w5 (w.heap.size + 1) 76 #[.slice none 0 0, .slice none 0 0, .slice none 0 0] := (hgrow5.block _ (by simp only [World.size_alloc]; omega) (fun e => by have h2 := hlow1 _ e.symm; omega)).trans (HR1.out.alloc _); have e5 : w5.cell? ⟨B, 0, none⟩ = some u0 := hK5.cell 0; have f5 := hK5.frozen 0; have hz5 := hgrow5.size; simp only [World.size_alloc] at hz5; have hgl5 := hK5.lt)
      have hK2 : Bk (w5.setCell ⟨B, 0, none⟩ (.slice (some ⟨g5, 0, none⟩) (k + 1) cap5)) B 76 #[(.slice (some ⟨g5, 0, none⟩) (k + 1) cap5), u1, u2] := hK5.put 0 (.slice (some ⟨g5, 0, none⟩) (k + 1) cap5)
      have hP2 : Bk (w5.setCell ⟨B, 0, none⟩ (.slice (some ⟨g5, 0, none⟩) (k + 1) cap5)) p 58 #[.int .i64 px, .int .i64 py, .int .i64 pt] := (Below.heap_setCell _ _ _ _ (by simp only [ne_eq]; omega)).trans hP5
      have HR2 := Lib.hid (show Bk (w5.setCell ⟨B, 0, none⟩ (.slice (some ⟨g5, 0, none⟩) (k + 1) cap5)) (w.heap.size + 1) 76 #[.slice none 0 0, .slice none 0 0, .slice none 0 0] from (Below.heap_setCell _ _ _ _ (by simp only [ne_eq]; omega)).trans hR5)
      rw [← hn0.out] at hown5
      have HC2 := Lib.hid ((Cols.pushA (HC1.out.alloc (.cells #[.int .i64 px] 2)) hown5 hgrow5 hat5).setCell ⟨B, 0, none⟩ (.slice (some ⟨g5, 0, none⟩) (k + 1) cap5) (Nat.lt_succ_self B))
      have hB2 : Below w.heap.size w (w5.setCell ⟨B, 0, none⟩ (.slice (some ⟨g5, 0, none⟩) (k + 1) cap5)) := ((hB1.alloc hB1.size (.cells #[.int .i64 px] 2)).grown hgrow5 (by have := hB1.size; simp only [World.size_alloc]; omega) (fun b hb => by have h2 := hlow1 b hb; omega)).setCell (show w.heap.size ≤ B by omega) _
      obtain ⟨v0, hv0⟩ : ∃ v0 : Value, v0 = (.slice (some ⟨g5, 0, none⟩) (k + 1) cap5) := ⟨_, rfl⟩
      rw [← hv0] at hK2 hP2 HR2 HC2 hB2 ⊢
      generalize (w5.setCell ⟨B, 0, none⟩ v0) = W2 at hK2 hP2 HR2 HC2 hB2 ⊢
      clear q00 r00 hgp1 hgb1 hlow1 hK5 hP5 hR5 e5 f5 hz5 hgl5 hown5 hgrow5 hat5 hlt5 hkeep5 hv0 hK1 hP1 HR1 HC1 hB1 hua
      have q11 : W2.cell? ⟨B, 1, none⟩ = some u1 := hK2.cell 1
      have r11 : W2.cell? ⟨p, 1, none⟩ = some (.int .i64 py) := hP2.cell 1
      have hgp2 := hP2.lt
      have hgb2 := hK2.lt
      have hlow2 : ∀ b, u1.ownBlock = some b → B + 1 ≤ b := fun b hb => (HC2.out.b.lt b hb).1
      go_upto_region 7 with (at_builtin; refine list_push elem_int (by rfl) (.tmp 21) (.tmp 24) 55 (by rfl) Tryz.underlying55 (B + 1) _ (colTk xs 1 k) py (by rfl) (HC2.out.b.alloc _) k hl1.out W2.heap.size 1 (by rfl) (fun i u hu => ((Bk.new W2 #[.int .i64 py] 2).cell i).trans (by simpa [iC] using hu)) (by unfold maxLen; omega) (by omega) (by simp only [World.size_alloc]; omega) ?_; intro g5 cap5 w5 hown5 hgrow5 hat5 hlt5 hkeep5; have hK5 : Bk w5 B 76 #[v0, u1, u2] := (hgrow5.block _ (by simp only [World.size_alloc]; omega) (fun e => by have h2 := hlow2 _ e.symm; omega)).trans (hK2.alloc _); have hP5 : Bk w5 p 58 #[.int .i64 px, .int .i64 py, .int .i64 pt] := (hgrow5.block _ (by simp only [World.size_alloc]; omega) (fun e => by have h2 := hub _ e.symm; omega)).trans (hP2.alloc _); have hR5 : Bk w5 (w.heap.size + 1) 76 #[.slice none 0 0, .slice none 0 0, .slice none 0 0] := (hgrow5.block _ (by simp only [World.size_alloc]; omega) (fun e => by have h2 := hlow2 _ e.symm; omega)).trans (HR2.out.alloc _); have e5 : w5.cell? ⟨B, 1, none⟩ = some u1 := hK5.cell 1; have f5 := hK5.frozen 1; have hz5 := hgrow5.size; simp only [World.size_alloc] at hz5; have hgl5 := hK5.lt)
      have hK3 : Bk (w5.setCell ⟨B, 1, none⟩ (.slice (some ⟨g5, 0, none⟩) (k + 1) cap5)) B 76 #[v0, (.slice (some ⟨g5, 0, none⟩) (k + 1) cap5), u2] := hK5.put 1 (.slice (some ⟨g5, 0, none⟩) (k + 1) cap5)
      have hP3 : Bk (w5.setCell ⟨B, 1, none⟩ (.slice (some ⟨g5, 0, none⟩) (k + 1) cap5)) p 58 #[.int .i64 px, .int .i64 py, .int .i64 pt] := (Below.heap_setCell _ _ _ _ (by simp only [ne_eq]; omega)).trans hP5
      have HR3 := Lib.hid (show Bk (w5.setCell ⟨B, 1, none⟩ (.slice (some ⟨g5, 0, none⟩) (k + 1) cap5)) (w.heap.size + 1) 76 #[.slice none 0 0, .slice none 0 0, .slice none 0 0] from (Below.heap_setCell _ _ _ _ (by simp only [ne_eq]; omega)).trans hR5)
      rw [← hn1.out] at hown5
      have HC3 := Lib.hid ((Cols.pushB (HC2.out.alloc (.cells #[.int .i64 py] 2)) hown5 hgrow5 hat5).setCell ⟨B, 1, none⟩ (.slice (some ⟨g5, 0, none⟩) (k + 1) cap5) (Nat.lt_succ_self B))
      have hB3 : Below w.heap.size w (w5.setCell ⟨B, 1, none⟩ (.slice (some ⟨g5, 0, none⟩) (k + 1) cap5)) := ((hB2.alloc hB2.size (.cells #[.int .i64 py] 2)).grown hgrow5 (by have := hB2.size; simp only [World.size_alloc]; omega) (fun b hb => by have h2 := hlow2 b hb; omega)).setCell (show w.heap.size ≤ B by omega) _
      obtain ⟨v1, hv1⟩ : ∃ v1 : Value, v1 = (.slice (some ⟨g5, 0, none⟩) (k + 1) cap5) := ⟨_, rfl⟩
      rw [← hv1] at hK3 hP3 HR3 HC3 hB3 ⊢
      generalize (w5.setCell ⟨B, 1, none⟩ v1) = W3 at hK3 hP3 HR3 HC3 hB3 ⊢
      clear q11 r11 hgp2 hgb2 hlow2 hK5 hP5 hR5 e5 f5 hz5 hgl5 hown5 hgrow5 hat5 hlt5 hkeep5 hv1 hK2 hP2 HR2 HC2 hB2 hub
      have q22 : W3.cell? ⟨B, 2, none⟩ = some u2 := hK3.cell 2
      have r22 : W3.cell? ⟨p, 2, none⟩ = some (.int .i64 pt) := hP3.cell 2
      have hgp3 := hP3.lt
      have hgb3 := hK3.lt
      have hlow3 : ∀ b, u2.ownBlock = some b → B + 1 ≤ b := fun b hb => (HC3.out.c.lt b hb).1
      go_upto_region 8 with (at_builtin; refine list_push elem_int (by rfl) (.tmp 28) (.tmp 31) 55 (by rfl) Tryz.underlying55 (B + 1) _ (colTk xs 2 k) pt (by rfl) (HC3.out.c.alloc _) k hl2.out W3.heap.size 1 (by rfl) (fun i u hu => ((Bk.new W3 #[.int .i64 pt] 2).cell i).trans (by simpa [iC] using hu)) (by unfold maxLen; omega) (by omega) (by simp only [World.size_alloc]; omega) ?_; intro g5 cap5 w5 hown5 hgrow5 hat5 hlt5 hkeep5; have hK5 : Bk w5 B 76 #[v0, v1, u2] := (hgrow5.block _ (by simp only [World.size_alloc]; omega) (fun e => by have h2 := hlow3 _ e.symm; omega)).trans (hK3.alloc _); have hP5 : Bk w5 p 58 #[.int .i64 px, .int .i64 py, .int .i64 pt] := (hgrow5.block _ (by simp only [World.size_alloc]; omega) (fun e => by have h2 := huc _ e.symm; omega)).trans (hP3.alloc _); have hR5 : Bk w5 (w.heap.size + 1) 76 #[.slice none 0 0, .slice none 0 0, .slice none 0 0] := (hgrow5.block _ (by simp only [World.size_alloc]; omega) (fun e => by have h2 := hlow3 _ e.symm; omega)).trans (HR3.out.alloc _); have e5 : w5.cell? ⟨B, 2, none⟩ = some u2 := hK5.cell 2; have f5 := hK5.frozen 2; have hz5 := hgrow5.size; simp only [World.size_alloc] at hz5; have hgl5 := hK5.lt)
      have hK4 : Bk (w5.setCell ⟨B, 2, none⟩ (.slice (some ⟨g5, 0, none⟩) (k + 1) cap5)) B 76 #[v0, v1, (.slice (some ⟨g5, 0, none⟩) (k + 1) cap5)] := hK5.put 2 (.slice (some ⟨g5, 0, none⟩) (k + 1) cap5)
      have hP4 : Bk (w5.setCell ⟨B, 2, none⟩ (.slice (some ⟨g5, 0, none⟩) (k + 1) cap5)) p 58 #[.int .i64 px, .int .i64 py, .int .i64 pt] := (Below.heap_setCell _ _ _ _ (by simp only [ne_eq]; omega)).trans hP5
      have HR4 := Lib.hid (show Bk (w5.setCell ⟨B, 2, none⟩ (.slice (some ⟨g5, 0, none⟩) (k + 1) cap5)) (w.heap.size + 1) 76 #[.slice none 0 0, .slice none 0 0, .slice none 0 0] from (Below.heap_setCell _ _ _ _ (by simp only [ne_eq]; omega)).trans hR5)
      rw [← hn2.out] at hown5
      have HC4 := Lib.hid ((Cols.pushC (HC3.out.alloc (.cells #[.int .i64 pt] 2)) hown5 hgrow5 hat5).setCell ⟨B, 2, none⟩ (.slice (some ⟨g5, 0, none⟩) (k + 1) cap5) (Nat.lt_succ_self B))
      have hB4 : Below w.heap.size w (w5.setCell ⟨B, 2, none⟩ (.slice (some ⟨g5, 0, none⟩) (k + 1) cap5)) := ((hB3.alloc hB3.size (.cells #[.int .i64 pt] 2)).grown hgrow5 (by have := hB3.size; simp only [World.size_alloc]; omega) (fun b hb => by have h2 := hlow3 b hb; omega)).setCell (show w.heap.size ≤ B by omega) _
      obtain ⟨v2, hv2⟩ : ∃ v2 : Value, v2 = (.slice (some ⟨g5, 0, none⟩) (k + 1) cap5) := ⟨_, rfl⟩
      rw [← hv2] at hK4 hP4 HR4 HC4 hB4 ⊢
      generalize (w5.setCell ⟨B, 2, none⟩ v2) = W4 at hK4 hP4 HR4 HC4 hB4 ⊢
      clear q22 r22 hgp3 hgb3 hlow3 hK5 hP5 hR5 e5 f5 hz5 hgl5 hown5 hgrow5 hat5 hlt5 hkeep5 hv2 hK3 hP3 HR3 HC3 hB3 huc
      have hgb4 := hK4.lt
      go_wp2_with fail
      go_roundw
      case rel => exact ⟨k + 1, v0, v1, v2, by omega, by go_num, hK4, HR4.out, HC4.out, hB4, by omega⟩
      case measure => (simp [intOf]; try omega)
    · obtain rfl : k = n := by omega
      have hla : xs.length ≤ k := by rw [LA.out]; exact Nat.le_refl _
      rw [Hid, colTk_all hla, colTk_all hla, colTk_all hla] at HC
      have HCC := Lib.hid HC
      obtain ⟨A0, c0, hu0, _, _, _⟩ := HCC.out.a.rd
      obtain ⟨A1, c1, hu1, _, _, _⟩ := HCC.out.b.rd
      obtain ⟨A2, c2, hu2, _, _, _⟩ := HCC.out.c.rd
      rw [colOf_len, LA.out] at hu0 hu1 hu2
      subst hu0 hu1 hu2
      have q0 : wr.cell? ⟨B, 0, none⟩ = some (.slice A0 k c0) := HK.out.cell 0
      have q1 : wr.cell? ⟨B, 1, none⟩ = some (.slice A1 k c1) := HK.out.cell 1
      have q2 : wr.cell? ⟨B, 2, none⟩ = some (.slice A2 k c2) := HK.out.cell 2
      have q3 : wr.cell? ⟨w.heap.size + 1, 0, none⟩ = some (.slice none 0 0) := HR.out.cell 0
      have q4 : wr.cell? ⟨w.heap.size + 1, 1, none⟩ = some (.slice none 0 0) := HR.out.cell 1
      have q5 : wr.cell? ⟨w.heap.size + 1, 2, none⟩ = some (.slice none 0 0) := HR.out.cell 2
      have g3 := HR.out.frozen 0
      have g4 := HR.out.frozen 1
      have g5 := HR.out.frozen 2
      have hgl := HR.out.lt
      clear HC
      go_wp2_with fail
      refine bodyPost_ret (by simp [results, Tryz.results42, go_sem, *]; try rfl) rfl ?_
      exact ⟨⟨A0, c0, A1, c1, A2, c2, rfl, (((HCC.out.setCell ⟨w.heap.size + 1, 0, none⟩ _ (by simp only []; omega)).setCell ⟨w.heap.size + 1, 1, none⟩ _ (by simp only []; omega)).setCell ⟨w.heap.size + 1, 2, none⟩ _ (by simp only []; omega)).mono (by omega)⟩, ((hB.setCell (by simp only []; omega) _).setCell (by simp only []; omega) _).setCell (by simp only []; omega) _⟩
end Go.Proofs.YtinlhigpmchiaaaGreatDoor
