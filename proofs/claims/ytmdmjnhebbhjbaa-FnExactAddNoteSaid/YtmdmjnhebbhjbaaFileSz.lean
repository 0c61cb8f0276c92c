/-
  A file of the law is sized.
-/
import Derived.Test.YtmdmjnhebbhjbaaFileArg
namespace Go.Proofs.Ytmdmjnhebbhjbaa
set_option linter.unusedSimpArgs false
set_option linter.unusedVariables false
set_option maxRecDepth 20000
open Go.RowKit
open Go.ChangeShapes Go.WideShapes Go.Deep Go.Joins

def chSz (c : Ch) : Nat := c.name.size + c.unit.size
def noSz (n : No) : Nat := n.text.size
def rowsSz (s : Sl (Sl Int)) : Nat := s.l.length + cntL cntRow s.l
theorem szChannel_ok (c : Ch) (left : Nat) (w : World) (h1 : c.name.size ≤ 9223372036854775807 ∧ c.unit.size ≤ 9223372036854775807) (hl : left ≤ 1048576) {z : Nat} (hz : Hid (chSz c = z)) (h : z ≤ left) :
    Calls Try.prog 36 #[.agg #[.string c.name, .string c.unit, .int .i64 c.low, .int .i64 c.high], .int .i64 (left : Int)] w fun e w' => e = .returned (.int .i64 ((left - z : Nat) : Int)) ∧ Below w.heap.size w w' := by
  obtain ⟨ha, hb⟩ := h1
  have h2 : c.name.size + c.unit.size = z := hz.out
  have h3 : c.name.size ≤ left := by omega
  have h4 : c.name.size + c.unit.size ≤ left := by omega
  have HZ := Lib.hid h2
  clear hz h2
  go_enter Try.func36, Try.ntmps36
  go_wp2_with fail
  go_ret
  exact ⟨ret_int (by have := HZ.out; omega), by go_grown⟩
theorem szChannel_no (c : Ch) (left : Nat) (w : World) (h1 : c.name.size ≤ 9223372036854775807 ∧ c.unit.size ≤ 9223372036854775807) (hl : left ≤ 1048576) {z : Nat} (hz : Hid (chSz c = z)) (h : ¬ z ≤ left) :
    Calls Try.prog 36 #[.agg #[.string c.name, .string c.unit, .int .i64 c.low, .int .i64 c.high], .int .i64 (left : Int)] w fun e w' => e = .returned (.int .i64 (-1)) ∧ Below w.heap.size w w' := by
  obtain ⟨ha, hb⟩ := h1
  have h2 : c.name.size + c.unit.size = z := hz.out
  have h4 : ¬ c.name.size + c.unit.size ≤ left := by omega
  clear hz h2 h
  by_cases h3 : c.name.size ≤ left
  · go_enter Try.func36, Try.ntmps36
    go_wp2_with fail
    go_ret
    exact ⟨rfl, by go_grown⟩
  · go_enter Try.func36, Try.ntmps36
    go_wp2_with fail
    go_ret
    exact ⟨rfl, by go_grown⟩
theorem szNote_ok (n : No) (left : Nat) (w : World) (h1 : n.text.size ≤ 9223372036854775807) (hl : left ≤ 1048576) {z : Nat} (hz : Hid (noSz n = z)) (h : z ≤ left) :
    Calls Try.prog 5 #[.agg #[.int .i64 n.fr, .int .i64 n.til, .string n.text], .int .i64 (left : Int)] w fun e w' => e = .returned (.int .i64 ((left - z : Nat) : Int)) ∧ Below w.heap.size w w' := by
  have h2 : n.text.size = z := hz.out
  have h3 : n.text.size ≤ left := by omega
  have HZ := Lib.hid h2
  clear hz h2
  go_enter Try.func5, Try.ntmps5
  go_wp2_with fail
  go_ret
  exact ⟨ret_int (by have := HZ.out; omega), by go_grown⟩
theorem szNote_no (n : No) (left : Nat) (w : World) (h1 : n.text.size ≤ 9223372036854775807) (hl : left ≤ 1048576) {z : Nat} (hz : Hid (noSz n = z)) (h : ¬ z ≤ left) :
    Calls Try.prog 5 #[.agg #[.int .i64 n.fr, .int .i64 n.til, .string n.text], .int .i64 (left : Int)] w fun e w' => e = .returned (.int .i64 (-1)) ∧ Below w.heap.size w w' := by
  have h2 : n.text.size = z := hz.out
  have h3 : ¬ n.text.size ≤ left := by omega
  clear hz h2 h
  go_enter Try.func5, Try.ntmps5
  go_wp2_with fail
  go_ret
  exact ⟨rfl, by go_grown⟩
theorem szRow_ok (s : Sl Int) (left : Nat) (w : World) (h1 : s.l.length ≤ 9223372036854775807) (hl : left ≤ 1048576) {z : Nat} (hz : Hid (cntRow s = z)) (h : z ≤ left) :
    Calls Try.prog 69 #[.slice s.A s.l.length s.c, .int .i64 (left : Int)] w fun e w' => e = .returned (.int .i64 ((left - z : Nat) : Int)) ∧ Below w.heap.size w w' := by
  have h2 : s.l.length = z := hz.out
  have h3 : s.l.length ≤ left := by omega
  have HZ := Lib.hid h2
  clear hz h2
  go_enter Try.func69, Try.ntmps69
  go_wp2_with fail
  go_ret
  exact ⟨ret_int (by have := HZ.out; omega), by go_grown⟩
theorem szRow_no (s : Sl Int) (left : Nat) (w : World) (h1 : s.l.length ≤ 9223372036854775807) (hl : left ≤ 1048576) {z : Nat} (hz : Hid (cntRow s = z)) (h : ¬ z ≤ left) :
    Calls Try.prog 69 #[.slice s.A s.l.length s.c, .int .i64 (left : Int)] w fun e w' => e = .returned (.int .i64 (-1)) ∧ Below w.heap.size w w' := by
  have h2 : s.l.length = z := hz.out
  have h3 : ¬ s.l.length ≤ left := by omega
  clear hz h2 h
  go_enter Try.func69, Try.ntmps69
  go_wp2_with fail
  go_ret
  exact ⟨rfl, by go_grown⟩

set_option maxHeartbeats 4000000 in
theorem szChannelS_any (A : Option Addr) (n c : Nat) (l : List Ch) (left : Nat) (R : Int) (w : World) (h : Rd w A n 4 (rowOf chC l)) (ll : l.length = n) (hn : n ≤ 9223372036854775807) (hs : ∀ a ∈ l, a.name.size ≤ 9223372036854775807 ∧ a.unit.size ≤ 9223372036854775807) (hl : left ≤ 1048576)
    (hy : n + cntL chSz l ≤ left → R = ((left - n - cntL chSz l : Nat) : Int)) (hno : ¬ n + cntL chSz l ≤ left → R = -1) :
    Calls Try.prog 13 #[.slice A n c, .int .i64 (left : Int)] w fun e w' => e = .returned (.int .i64 R) ∧ Below w.heap.size w w' := by
  have HA := Lib.hid h
  have LA := Lib.hid ll
  have HY := Lib.hid hy
  have HN := Lib.hid hno
  clear h ll hy hno
  by_cases h0 : n ≤ left
  · go_enter Try.func13, Try.ntmps13
    go_wp2_with fail
    go_loopw [1, 5] (fun lv i wr => ∃ k q : Nat, k ≤ n ∧ i = .int .i64 k ∧ lv = .int .i64 (q : Int) ∧ q ≤ 1048576 ∧ Hid (n + cntL chSz (l.take k) + q = left) ∧ Below w.heap.size w wr) (fun _ i _ => n - (intOf i).toNat)
    case atStart => exact ⟨0, left - n, Nat.zero_le _, rfl, by go_num, by omega, by rw [Hid]; simp [cntL]; omega, Below.refl _ _⟩
    case round =>
      obtain ⟨k, q, hk, rfl, rfl, hq, hsum, hW⟩ := hrel
      by_cases hlt : k < n
      · have ka : k < l.length := by have := LA.out; omega
        obtain ⟨b1, o1, rfl, l1, c0⟩ := (HA.out.below hW).at chC_len LA.out ka
        have c1 : wr.cell? ⟨b1, o1 + k * 4, none⟩ = some (.string l[k].name) := c0 0 _ rfl
        have c2 : wr.cell? ⟨b1, o1 + k * 4 + 1, none⟩ = some (.string l[k].unit) := c0 1 _ rfl
        have c3 : wr.cell? ⟨b1, o1 + k * 4 + 2, none⟩ = some (.int .i64 l[k].low) := c0 2 _ rfl
        have c4 : wr.cell? ⟨b1, o1 + k * 4 + 3, none⟩ = some (.int .i64 l[k].high) := c0 3 _ rfl
        clear c0
        have hsl := hs _ (List.getElem_mem ka)
        have hnx := Lib.hid (cntL_next (cnt := chSz) ka)
        have hle := Lib.hid (cntL_le (cnt := chSz) l (k + 1))
        obtain ⟨z, hz⟩ : ∃ z, chSz l[k] = z := ⟨_, rfl⟩
        have hZ := Lib.hid hz
        clear hz
        by_cases hf : z ≤ q
        · go_wp2_with fail
          refine (szChannel_ok l[k] q _ hsl hq hZ hf).mono ?_
          rintro e w2 ⟨rfl, hb⟩
          have hW2 := Below.next hW hb
          go_wp2_with fail
          go_roundw
          case rel => exact ⟨k + 1, q - z, by omega, by go_num, rfl, by omega, by rw [Hid, hnx.out, hZ.out]; have := hsum.out; omega, hW2⟩
          case measure => simp [intOf]; omega
        · go_wp2_with fail
          refine (szChannel_no l[k] q _ hsl hq hZ hf).mono ?_
          rintro e w2 ⟨rfl, hb⟩
          have hW2 := Below.next hW hb
          go_wp2_with fail
          go_ret
          refine ⟨?_, hW2⟩
          have := hnx.out
          have := hsum.out
          have := hle.out
          have := hZ.out
          rw [HN.out (by omega)]; rfl
      · obtain rfl : k = n := by omega
        have hT : Hid (l.take k = l) := List.take_of_length_le (by rw [LA.out]; exact Nat.le_refl _)
        go_wp2_with fail
        go_ret
        have h1 := hsum.out
        rw [hT.out] at h1
        exact ⟨by rw [HY.out (by omega)]; exact ret_int (by omega), hW⟩
  · go_enter Try.func13, Try.ntmps13
    go_wp2_with fail
    go_ret
    exact ⟨by rw [HN.out (by omega)]; rfl, Below.refl _ _⟩

set_option maxHeartbeats 4000000 in
theorem szNoteS_any (A : Option Addr) (n c : Nat) (l : List No) (left : Nat) (R : Int) (w : World) (h : Rd w A n 3 (rowOf noC l)) (ll : l.length = n) (hn : n ≤ 9223372036854775807) (hs : ∀ a ∈ l, a.text.size ≤ 9223372036854775807) (hl : left ≤ 1048576)
    (hy : n + cntL noSz l ≤ left → R = ((left - n - cntL noSz l : Nat) : Int)) (hno : ¬ n + cntL noSz l ≤ left → R = -1) :
    Calls Try.prog 15 #[.slice A n c, .int .i64 (left : Int)] w fun e w' => e = .returned (.int .i64 R) ∧ Below w.heap.size w w' := by
  have HA := Lib.hid h
  have LA := Lib.hid ll
  have HY := Lib.hid hy
  have HN := Lib.hid hno
  clear h ll hy hno
  by_cases h0 : n ≤ left
  · go_enter Try.func15, Try.ntmps15
    go_wp2_with fail
    go_loopw [1, 5] (fun lv i wr => ∃ k q : Nat, k ≤ n ∧ i = .int .i64 k ∧ lv = .int .i64 (q : Int) ∧ q ≤ 1048576 ∧ Hid (n + cntL noSz (l.take k) + q = left) ∧ Below w.heap.size w wr) (fun _ i _ => n - (intOf i).toNat)
    case atStart => exact ⟨0, left - n, Nat.zero_le _, rfl, by go_num, by omega, by rw [Hid]; simp [cntL]; omega, Below.refl _ _⟩
    case round =>
      obtain ⟨k, q, hk, rfl, rfl, hq, hsum, hW⟩ := hrel
      by_cases hlt : k < n
      · have ka : k < l.length := by have := LA.out; omega
        obtain ⟨b1, o1, rfl, l1, c0⟩ := (HA.out.below hW).at noC_len LA.out ka
        have c1 : wr.cell? ⟨b1, o1 + k * 3, none⟩ = some (.int .i64 l[k].fr) := c0 0 _ rfl
        have c2 : wr.cell? ⟨b1, o1 + k * 3 + 1, none⟩ = some (.int .i64 l[k].til) := c0 1 _ rfl
        have c3 : wr.cell? ⟨b1, o1 + k * 3 + 2, none⟩ = some (.string l[k].text) := c0 2 _ rfl
        clear c0
        have hsl := hs _ (List.getElem_mem ka)
        have hnx := Lib.hid (cntL_next (cnt := noSz) ka)
        have hle := Lib.hid (cntL_le (cnt := noSz) l (k + 1))
        obtain ⟨z, hz⟩ : ∃ z, noSz l[k] = z := ⟨_, rfl⟩
        have hZ := Lib.hid hz
        clear hz
        by_cases hf : z ≤ q
        · go_wp2_with fail
          refine (szNote_ok l[k] q _ hsl hq hZ hf).mono ?_
          rintro e w2 ⟨rfl, hb⟩
          have hW2 := Below.next hW hb
          go_wp2_with fail
          go_roundw
          case rel => exact ⟨k + 1, q - z, by omega, by go_num, rfl, by omega, by rw [Hid, hnx.out, hZ.out]; have := hsum.out; omega, hW2⟩
          case measure => simp [intOf]; omega
        · go_wp2_with fail
          refine (szNote_no l[k] q _ hsl hq hZ hf).mono ?_
          rintro e w2 ⟨rfl, hb⟩
          have hW2 := Below.next hW hb
          go_wp2_with fail
          go_ret
          refine ⟨?_, hW2⟩
          have := hnx.out
          have := hsum.out
          have := hle.out
          have := hZ.out
          rw [HN.out (by omega)]; rfl
      · obtain rfl : k = n := by omega
        have hT : Hid (l.take k = l) := List.take_of_length_le (by rw [LA.out]; exact Nat.le_refl _)
        go_wp2_with fail
        go_ret
        have h1 := hsum.out
        rw [hT.out] at h1
        exact ⟨by rw [HY.out (by omega)]; exact ret_int (by omega), hW⟩
  · go_enter Try.func15, Try.ntmps15
    go_wp2_with fail
    go_ret
    exact ⟨by rw [HN.out (by omega)]; rfl, Below.refl _ _⟩

set_option maxHeartbeats 4000000 in
theorem szInt64SS_any (A : Option Addr) (n c : Nat) (l : List (Sl Int)) (left : Nat) (R : Int) (w : World) (h : Rd w A n 1 (rowOf hdC l)) (ll : l.length = n) (hn : n ≤ 9223372036854775807) (hs : ∀ a ∈ l, a.l.length ≤ 9223372036854775807) (hl : left ≤ 1048576)
    (hy : n + cntL cntRow l ≤ left → R = ((left - n - cntL cntRow l : Nat) : Int)) (hno : ¬ n + cntL cntRow l ≤ left → R = -1) :
    Calls Try.prog 60 #[.slice A n c, .int .i64 (left : Int)] w fun e w' => e = .returned (.int .i64 R) ∧ Below w.heap.size w w' := by
  have HA := Lib.hid h
  have LA := Lib.hid ll
  have HY := Lib.hid hy
  have HN := Lib.hid hno
  clear h ll hy hno
  by_cases h0 : n ≤ left
  · go_enter Try.func60, Try.ntmps60
    go_wp2_with fail
    go_loopw [1, 5] (fun lv i wr => ∃ k q : Nat, k ≤ n ∧ i = .int .i64 k ∧ lv = .int .i64 (q : Int) ∧ q ≤ 1048576 ∧ Hid (n + cntL cntRow (l.take k) + q = left) ∧ Below w.heap.size w wr) (fun _ i _ => n - (intOf i).toNat)
    case atStart => exact ⟨0, left - n, Nat.zero_le _, rfl, by go_num, by omega, by rw [Hid]; simp [cntL]; omega, Below.refl _ _⟩
    case round =>
      obtain ⟨k, q, hk, rfl, rfl, hq, hsum, hW⟩ := hrel
      by_cases hlt : k < n
      · have ka : k < l.length := by have := LA.out; omega
        obtain ⟨b1, o1, rfl, l1, c0⟩ := (HA.out.below hW).at hdC_len LA.out ka
        have c1 : wr.cell? ⟨b1, o1 + k, none⟩ = some (.slice l[k].A l[k].l.length l[k].c) := by simpa [Sl.val] using c0 0 _ rfl
        clear c0
        have hsl := hs _ (List.getElem_mem ka)
        have hnx := Lib.hid (cntL_next (cnt := cntRow) ka)
        have hle := Lib.hid (cntL_le (cnt := cntRow) l (k + 1))
        obtain ⟨z, hz⟩ : ∃ z, cntRow l[k] = z := ⟨_, rfl⟩
        have hZ := Lib.hid hz
        clear hz
        by_cases hf : z ≤ q
        · go_wp2_with fail
          refine (szRow_ok l[k] q _ hsl hq hZ hf).mono ?_
          rintro e w2 ⟨rfl, hb⟩
          have hW2 := Below.next hW hb
          go_wp2_with fail
          go_roundw
          case rel => exact ⟨k + 1, q - z, by omega, by go_num, rfl, by omega, by rw [Hid, hnx.out, hZ.out]; have := hsum.out; omega, hW2⟩
          case measure => simp [intOf]; omega
        · go_wp2_with fail
          refine (szRow_no l[k] q _ hsl hq hZ hf).mono ?_
          rintro e w2 ⟨rfl, hb⟩
          have hW2 := Below.next hW hb
          go_wp2_with fail
          go_ret
          refine ⟨?_, hW2⟩
          have := hnx.out
          have := hsum.out
          have := hle.out
          have := hZ.out
          rw [HN.out (by omega)]; rfl
      · obtain rfl : k = n := by omega
        have hT : Hid (l.take k = l) := List.take_of_length_le (by rw [LA.out]; exact Nat.le_refl _)
        go_wp2_with fail
        go_ret
        have h1 := hsum.out
        rw [hT.out] at h1
        exact ⟨by rw [HY.out (by omega)]; exact ret_int (by omega), hW⟩
  · go_enter Try.func60, Try.ntmps60
    go_wp2_with fail
    go_ret
    exact ⟨by rw [HN.out (by omega)]; rfl, Below.refl _ _⟩

theorem szRows_ok (s : Sl (Sl Int)) (left : Nat) (w : World) (hr : rowsK.rd w s) (h1 : s.l.length ≤ 9223372036854775807 ∧ ∀ r ∈ s.l, r.l.length ≤ 9223372036854775807) (hl : left ≤ 1048576) {z : Nat} (hz : Hid (rowsSz s = z)) (h : z ≤ left) :
    Calls Try.prog 37 #[.agg #[.slice s.A s.l.length s.c], .int .i64 (left : Int)] w fun e w' => e = .returned (.int .i64 ((left - z : Nat) : Int)) ∧ Below w.heap.size w w' := by
  have h2 : s.l.length + cntL cntRow s.l = z := hz.out
  have HR := Lib.hid (rowsK_ok.below hr (Below.alloc (Below.refl _ _) (Nat.le_refl _) (.cells #[.slice s.A s.l.length s.c] 71)))
  obtain ⟨r, hr0⟩ : ∃ r, left - z = r := ⟨_, rfl⟩
  rw [hr0]
  have HRR := Lib.hid hr0
  have HZ := Lib.hid h2
  clear hz h2 hr hr0
  go_enter Try.func37, Try.ntmps37
  go_wp2_with fail
  refine (szInt64SS_any s.A s.l.length s.c s.l left (r : Int) _ HR.out.1 rfl h1.1 h1.2 hl (fun _ => by rw [← HRR.out, ← HZ.out, Nat.sub_add_eq]) (fun h5 => absurd (by rw [HZ.out]; exact h) h5)).mono ?_
  rintro e w2 ⟨rfl, hb⟩
  have hB : Below w.heap.size w w2 := Below.next (by go_grown) hb
  clear hb HR
  go_wp2_with fail
  go_ret
  exact ⟨rfl, hB⟩
theorem szRows_no (s : Sl (Sl Int)) (left : Nat) (w : World) (hr : rowsK.rd w s) (h1 : s.l.length ≤ 9223372036854775807 ∧ ∀ r ∈ s.l, r.l.length ≤ 9223372036854775807) (hl : left ≤ 1048576) {z : Nat} (hz : Hid (rowsSz s = z)) (h : ¬ z ≤ left) :
    Calls Try.prog 37 #[.agg #[.slice s.A s.l.length s.c], .int .i64 (left : Int)] w fun e w' => e = .returned (.int .i64 (-1)) ∧ Below w.heap.size w w' := by
  have h2 : s.l.length + cntL cntRow s.l = z := hz.out
  have HR := Lib.hid (rowsK_ok.below hr (Below.alloc (Below.refl _ _) (Nat.le_refl _) (.cells #[.slice s.A s.l.length s.c] 71)))
  have HZ := Lib.hid h2
  have HF := Lib.hid h
  clear hz h2 hr h
  go_enter Try.func37, Try.ntmps37
  go_wp2_with fail
  refine (szInt64SS_any s.A s.l.length s.c s.l left (-1) _ HR.out.1 rfl h1.1 h1.2 hl (fun h5 => absurd (by rw [← HZ.out]; exact h5) HF.out) (fun _ => rfl)).mono ?_
  rintro e w2 ⟨rfl, hb⟩
  have hB : Below w.heap.size w w2 := Below.next (by go_grown) hb
  clear hb HR
  go_wp2_with fail
  go_ret
  exact ⟨rfl, hB⟩

set_option maxHeartbeats 4000000 in
theorem szRowsS_any (A : Option Addr) (n c : Nat) (l : List (Sl (Sl Int))) (left : Nat) (R : Int) (w : World) (h : Rd w A n 1 (rowOf hdC l)) (hx : ∀ a ∈ l, rowsK.rd w a) (ll : l.length = n) (hn : n ≤ 9223372036854775807) (hs : ∀ a ∈ l, a.l.length ≤ 9223372036854775807 ∧ ∀ r ∈ a.l, r.l.length ≤ 9223372036854775807) (hl : left ≤ 1048576)
    (hy : n + cntL rowsSz l ≤ left → R = ((left - n - cntL rowsSz l : Nat) : Int)) (hno : ¬ n + cntL rowsSz l ≤ left → R = -1) :
    Calls Try.prog 14 #[.slice A n c, .int .i64 (left : Int)] w fun e w' => e = .returned (.int .i64 R) ∧ Below w.heap.size w w' := by
  have HA := Lib.hid h
  have LA := Lib.hid ll
  have HY := Lib.hid hy
  have HN := Lib.hid hno
  have HX := Lib.hid hx
  clear hx
  clear h ll hy hno
  by_cases h0 : n ≤ left
  · go_enter Try.func14, Try.ntmps14
    go_wp2_with fail
    go_loopw [1, 5] (fun lv i wr => ∃ k q : Nat, k ≤ n ∧ i = .int .i64 k ∧ lv = .int .i64 (q : Int) ∧ q ≤ 1048576 ∧ Hid (n + cntL rowsSz (l.take k) + q = left) ∧ Below w.heap.size w wr) (fun _ i _ => n - (intOf i).toNat)
    case atStart => exact ⟨0, left - n, Nat.zero_le _, rfl, by go_num, by omega, by rw [Hid]; simp [cntL]; omega, Below.refl _ _⟩
    case round =>
      obtain ⟨k, q, hk, rfl, rfl, hq, hsum, hW⟩ := hrel
      by_cases hlt : k < n
      · have ka : k < l.length := by have := LA.out; omega
        obtain ⟨b1, o1, rfl, l1, c0⟩ := (HA.out.below hW).at hdC_len LA.out ka
        have c1 : wr.cell? ⟨b1, o1 + k, none⟩ = some (.slice l[k].A l[k].l.length l[k].c) := by simpa [Sl.val] using c0 0 _ rfl
        clear c0
        have hsl := hs _ (List.getElem_mem ka)
        have hnx := Lib.hid (cntL_next (cnt := rowsSz) ka)
        have hle := Lib.hid (cntL_le (cnt := rowsSz) l (k + 1))
        obtain ⟨z, hz⟩ : ∃ z, rowsSz l[k] = z := ⟨_, rfl⟩
        have hZ := Lib.hid hz
        clear hz
        by_cases hf : z ≤ q
        · go_wp2_with fail
          refine (szRows_ok l[k] q _ (rowsK_ok.below (HX.out _ (List.getElem_mem ka)) hW) hsl hq hZ hf).mono ?_
          rintro e w2 ⟨rfl, hb⟩
          have hW2 := Below.next hW hb
          go_wp2_with fail
          go_roundw
          case rel => exact ⟨k + 1, q - z, by omega, by go_num, rfl, by omega, by rw [Hid, hnx.out, hZ.out]; have := hsum.out; omega, hW2⟩
          case measure => simp [intOf]; omega
        · go_wp2_with fail
          refine (szRows_no l[k] q _ (rowsK_ok.below (HX.out _ (List.getElem_mem ka)) hW) hsl hq hZ hf).mono ?_
          rintro e w2 ⟨rfl, hb⟩
          have hW2 := Below.next hW hb
          go_wp2_with fail
          go_ret
          refine ⟨?_, hW2⟩
          have := hnx.out
          have := hsum.out
          have := hle.out
          have := hZ.out
          rw [HN.out (by omega)]; rfl
      · obtain rfl : k = n := by omega
        have hT : Hid (l.take k = l) := List.take_of_length_le (by rw [LA.out]; exact Nat.le_refl _)
        go_wp2_with fail
        go_ret
        have h1 := hsum.out
        rw [hT.out] at h1
        exact ⟨by rw [HY.out (by omega)]; exact ret_int (by omega), hW⟩
  · go_enter Try.func14, Try.ntmps14
    go_wp2_with fail
    go_ret
    exact ⟨by rw [HN.out (by omega)]; rfl, Below.refl _ _⟩

/-- how much a file is -/
def flSz (f : Fl) : Nat := (f.ch.l.length + cntL chSz f.ch.l) + (f.st.l.length + cntL rowsSz f.st.l) + (f.no.l.length + cntL noSz f.no.l)

set_option maxHeartbeats 4000000 in
theorem szFile_ok (f : Fl) (left : Nat) (w : World) (h : FileRd w f) (hc : FileCap f) (hl : left ≤ 1048576) (hf : flSz f ≤ left) {r : Nat} (hr : left - flSz f = r) :
    Calls Try.prog 4 #[.agg #[.slice f.ch.A f.ch.l.length f.ch.c, .slice f.st.A f.st.l.length f.st.c, .slice f.no.A f.no.l.length f.no.c], .int .i64 (left : Int)] w fun e w' => e = .returned (.int .i64 (r : Int)) ∧ Below w.heap.size w w' := by
  have HA0 := Lib.hid h
  have HA := Lib.hid (h.below (Below.alloc (Below.refl _ _) (Nat.le_refl _) (.cells #[.slice f.ch.A f.ch.l.length f.ch.c, .slice f.st.A f.st.l.length f.st.c, .slice f.no.A f.no.l.length f.no.c] 26)))
  have HC := Lib.hid hc
  have HF := Lib.hid hf
  clear h hc hf
  obtain ⟨q1, hq1⟩ : ∃ q, left - f.ch.l.length - cntL chSz f.ch.l = q := ⟨_, rfl⟩
  obtain ⟨q2, hq2⟩ : ∃ q, q1 - f.st.l.length - cntL rowsSz f.st.l = q := ⟨_, rfl⟩
  have hq3 : q2 - f.no.l.length - cntL noSz f.no.l = r := by have := HF.out; unfold flSz at this hr; omega
  have HS1 : Hid (f.ch.l.length + cntL chSz f.ch.l + q1 = left) := by have := HF.out; unfold flSz at this; rw [Hid]; omega
  have HS2 : Hid (f.st.l.length + cntL rowsSz f.st.l + q2 = q1) := by have := HF.out; unfold flSz at this; rw [Hid]; omega
  have HS3 : Hid (f.no.l.length + cntL noSz f.no.l + r = q2) := by have := HF.out; unfold flSz at this; rw [Hid]; omega
  have hb1 : q1 ≤ 1048576 := by omega
  have hb2 : q2 ≤ 1048576 := by omega
  clear hq1 hq2 hq3 hr
  go_enter Try.func4, Try.ntmps4
  go_wp2_with fail
  refine (szChannelS_any f.ch.A f.ch.l.length f.ch.c f.ch.l left (q1 : Int) _ (by first | exact HA.out.ch.1 | exact (chsK_ok.below HA0.out.ch hB0).1) rfl HC.out.ch HC.out.chs (by omega) (fun _ => by have h6 := HS1.out; rw [show q1 = left - f.ch.l.length - cntL chSz f.ch.l from by omega]) (fun h5 => absurd (by have h6 := HS1.out; omega) h5)).mono ?_
  rintro e w1 ⟨rfl, hb⟩
  have hB1 : Below w.heap.size w w1 := Below.next (by go_grown) hb
  have k1 : w1.cell? ⟨w.heap.size, 1, none⟩ = some (.slice f.st.A f.st.l.length f.st.c) := (hb.cell (p := ⟨w.heap.size, 1, none⟩) (by simp)).trans (by go_simp)
  have m1 : w1.cell? ⟨w.heap.size, 2, none⟩ = some (.slice f.no.A f.no.l.length f.no.c) := (hb.cell (p := ⟨w.heap.size, 2, none⟩) (by simp)).trans (by go_simp)
  have z1 : w.heap.size < w1.heap.size := by have := hb.size; (try simp only [World.size_alloc] at this); omega
  clear hb
  go_wp2_with fail
  refine (szRowsS_any f.st.A f.st.l.length f.st.c f.st.l q1 (q2 : Int) _ (by first | exact HA.out.st.1 | exact (stK_ok.below HA0.out.st hB1).1) (by first | exact (stK_ok.below HA0.out.st hB1).2) rfl HC.out.st HC.out.sts (by omega) (fun _ => by have h6 := HS2.out; rw [show q2 = q1 - f.st.l.length - cntL rowsSz f.st.l from by omega]) (fun h5 => absurd (by have h6 := HS2.out; omega) h5)).mono ?_
  rintro e w2 ⟨rfl, hb⟩
  have hB2 : Below w.heap.size w w2 := Below.next hB1 hb
  have k2 : w2.cell? ⟨w.heap.size, 1, none⟩ = some (.slice f.st.A f.st.l.length f.st.c) := (hb.cell (p := ⟨w.heap.size, 1, none⟩) z1).trans k1
  have m2 : w2.cell? ⟨w.heap.size, 2, none⟩ = some (.slice f.no.A f.no.l.length f.no.c) := (hb.cell (p := ⟨w.heap.size, 2, none⟩) z1).trans m1
  have z2 : w.heap.size < w2.heap.size := by have := hb.size; (try simp only [World.size_alloc] at this); omega
  clear hb k1 m1
  go_wp2_with fail
  refine (szNoteS_any f.no.A f.no.l.length f.no.c f.no.l q2 (r : Int) _ (by first | exact HA.out.no.1 | exact (nosK_ok.below HA0.out.no hB2).1) rfl HC.out.no HC.out.nos (by omega) (fun _ => by have h6 := HS3.out; rw [show r = q2 - f.no.l.length - cntL noSz f.no.l from by omega]) (fun h5 => absurd (by have h6 := HS3.out; omega) h5)).mono ?_
  rintro e w3 ⟨rfl, hb⟩
  have hB3 : Below w.heap.size w w3 := Below.next hB2 hb
  have k3 : w3.cell? ⟨w.heap.size, 1, none⟩ = some (.slice f.st.A f.st.l.length f.st.c) := (hb.cell (p := ⟨w.heap.size, 1, none⟩) z2).trans k2
  have m3 : w3.cell? ⟨w.heap.size, 2, none⟩ = some (.slice f.no.A f.no.l.length f.no.c) := (hb.cell (p := ⟨w.heap.size, 2, none⟩) z2).trans m2
  have z3 : w.heap.size < w3.heap.size := by have := hb.size; (try simp only [World.size_alloc] at this); omega
  clear hb k2 m2
  go_wp2_with fail
  go_ret
  exact ⟨rfl, hB3⟩

set_option maxHeartbeats 4000000 in
theorem szFile_no (f : Fl) (left : Nat) (w : World) (h : FileRd w f) (hc : FileCap f) (hl : left ≤ 1048576) (hf : ¬ flSz f ≤ left) :
    Calls Try.prog 4 #[.agg #[.slice f.ch.A f.ch.l.length f.ch.c, .slice f.st.A f.st.l.length f.st.c, .slice f.no.A f.no.l.length f.no.c], .int .i64 (left : Int)] w fun e w' => e = .returned (.int .i64 (-1)) ∧ Below w.heap.size w w' := by
  have HA0 := Lib.hid h
  have HA := Lib.hid (h.below (Below.alloc (Below.refl _ _) (Nat.le_refl _) (.cells #[.slice f.ch.A f.ch.l.length f.ch.c, .slice f.st.A f.st.l.length f.st.c, .slice f.no.A f.no.l.length f.no.c] 26)))
  have HC := Lib.hid hc
  have HF := Lib.hid hf
  clear h hc hf
  by_cases h1 : f.ch.l.length + cntL chSz f.ch.l ≤ left
  rotate_left
  · have HNO := Lib.hid h1
    clear h1
    go_enter Try.func4, Try.ntmps4
    go_wp2_with fail
    refine (szChannelS_any f.ch.A f.ch.l.length f.ch.c f.ch.l left (-1) _ (by first | exact HA.out.ch.1 | exact (chsK_ok.below HA0.out.ch hB0).1) rfl HC.out.ch HC.out.chs (by omega) (fun h5 => absurd h5 HNO.out) (fun _ => rfl)).mono ?_
    rintro e w1 ⟨rfl, hb⟩
    have hB1 : Below w.heap.size w w1 := Below.next (by go_grown) hb
    clear hb
    go_wp2_with fail
    go_ret
    exact ⟨rfl, hB1⟩
  obtain ⟨q1, hq1⟩ : ∃ q, left - f.ch.l.length - cntL chSz f.ch.l = q := ⟨_, rfl⟩
  have HS1 : Hid (f.ch.l.length + cntL chSz f.ch.l + q1 = left) := by rw [Hid]; omega
  have hb1 : q1 ≤ 1048576 := by omega
  clear hq1 h1
  by_cases h2 : f.st.l.length + cntL rowsSz f.st.l ≤ q1
  rotate_left
  · have HNO := Lib.hid h2
    clear h2
    go_enter Try.func4, Try.ntmps4
    go_wp2_with fail
    refine (szChannelS_any f.ch.A f.ch.l.length f.ch.c f.ch.l left (q1 : Int) _ (by first | exact HA.out.ch.1 | exact (chsK_ok.below HA0.out.ch hB0).1) rfl HC.out.ch HC.out.chs (by omega) (fun _ => by have h6 := HS1.out; rw [show q1 = left - f.ch.l.length - cntL chSz f.ch.l from by omega]) (fun h5 => absurd (by have h6 := HS1.out; omega) h5)).mono ?_
    rintro e w1 ⟨rfl, hb⟩
    have hB1 : Below w.heap.size w w1 := Below.next (by go_grown) hb
    have k1 : w1.cell? ⟨w.heap.size, 1, none⟩ = some (.slice f.st.A f.st.l.length f.st.c) := (hb.cell (p := ⟨w.heap.size, 1, none⟩) (by simp)).trans (by go_simp)
    have m1 : w1.cell? ⟨w.heap.size, 2, none⟩ = some (.slice f.no.A f.no.l.length f.no.c) := (hb.cell (p := ⟨w.heap.size, 2, none⟩) (by simp)).trans (by go_simp)
    have z1 : w.heap.size < w1.heap.size := by have := hb.size; (try simp only [World.size_alloc] at this); omega
    clear hb
    go_wp2_with fail
    refine (szRowsS_any f.st.A f.st.l.length f.st.c f.st.l q1 (-1) _ (by first | exact HA.out.st.1 | exact (stK_ok.below HA0.out.st hB1).1) (stK_ok.below HA0.out.st hB1).2 rfl HC.out.st HC.out.sts (by omega) (fun h5 => absurd h5 HNO.out) (fun _ => rfl)).mono ?_
    rintro e w2 ⟨rfl, hb⟩
    have hB2 : Below w.heap.size w w2 := Below.next hB1 hb
    clear hb
    go_wp2_with fail
    go_ret
    exact ⟨rfl, hB2⟩
  obtain ⟨q2, hq2⟩ : ∃ q, q1 - f.st.l.length - cntL rowsSz f.st.l = q := ⟨_, rfl⟩
  have HS2 : Hid (f.st.l.length + cntL rowsSz f.st.l + q2 = q1) := by rw [Hid]; omega
  have hb2 : q2 ≤ 1048576 := by omega
  clear hq2 h2
  have HNO : Hid (¬ f.no.l.length + cntL noSz f.no.l ≤ q2) := fun h5 => HF.out (by have := HS1.out; have := HS2.out; unfold flSz; omega)
  go_enter Try.func4, Try.ntmps4
  go_wp2_with fail
  refine (szChannelS_any f.ch.A f.ch.l.length f.ch.c f.ch.l left (q1 : Int) _ (by first | exact HA.out.ch.1 | exact (chsK_ok.below HA0.out.ch hB0).1) rfl HC.out.ch HC.out.chs (by omega) (fun _ => by have h6 := HS1.out; rw [show q1 = left - f.ch.l.length - cntL chSz f.ch.l from by omega]) (fun h5 => absurd (by have h6 := HS1.out; omega) h5)).mono ?_
  rintro e w1 ⟨rfl, hb⟩
  have hB1 : Below w.heap.size w w1 := Below.next (by go_grown) hb
  have k1 : w1.cell? ⟨w.heap.size, 1, none⟩ = some (.slice f.st.A f.st.l.length f.st.c) := (hb.cell (p := ⟨w.heap.size, 1, none⟩) (by simp)).trans (by go_simp)
  have m1 : w1.cell? ⟨w.heap.size, 2, none⟩ = some (.slice f.no.A f.no.l.length f.no.c) := (hb.cell (p := ⟨w.heap.size, 2, none⟩) (by simp)).trans (by go_simp)
  have z1 : w.heap.size < w1.heap.size := by have := hb.size; (try simp only [World.size_alloc] at this); omega
  clear hb
  go_wp2_with fail
  refine (szRowsS_any f.st.A f.st.l.length f.st.c f.st.l q1 (q2 : Int) _ (by first | exact HA.out.st.1 | exact (stK_ok.below HA0.out.st hB1).1) (by first | exact (stK_ok.below HA0.out.st hB1).2) rfl HC.out.st HC.out.sts (by omega) (fun _ => by have h6 := HS2.out; rw [show q2 = q1 - f.st.l.length - cntL rowsSz f.st.l from by omega]) (fun h5 => absurd (by have h6 := HS2.out; omega) h5)).mono ?_
  rintro e w2 ⟨rfl, hb⟩
  have hB2 : Below w.heap.size w w2 := Below.next hB1 hb
  have k2 : w2.cell? ⟨w.heap.size, 1, none⟩ = some (.slice f.st.A f.st.l.length f.st.c) := (hb.cell (p := ⟨w.heap.size, 1, none⟩) z1).trans k1
  have m2 : w2.cell? ⟨w.heap.size, 2, none⟩ = some (.slice f.no.A f.no.l.length f.no.c) := (hb.cell (p := ⟨w.heap.size, 2, none⟩) z1).trans m1
  have z2 : w.heap.size < w2.heap.size := by have := hb.size; (try simp only [World.size_alloc] at this); omega
  clear hb k1 m1
  go_wp2_with fail
  refine (szNoteS_any f.no.A f.no.l.length f.no.c f.no.l q2 (-1) _ (by first | exact HA.out.no.1 | exact (nosK_ok.below HA0.out.no hB2).1) rfl HC.out.no HC.out.nos (by omega) (fun h5 => absurd h5 HNO.out) (fun _ => rfl)).mono ?_
  rintro e w3 ⟨rfl, hb⟩
  have hB3 : Below w.heap.size w w3 := Below.next hB2 hb
  clear hb
  go_wp2_with fail
  go_ret
  exact ⟨rfl, hB3⟩
end Go.Proofs.Ytmdmjnhebbhjbaa
