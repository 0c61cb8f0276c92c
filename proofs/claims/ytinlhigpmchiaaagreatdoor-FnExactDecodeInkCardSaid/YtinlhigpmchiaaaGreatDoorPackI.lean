/-
  PackBits: program and reference pack the same, or refuse alike.
-/
import Derived.Test.YtinlhigpmchiaaaGreatDoorBitsa
namespace Go.Proofs.YtinlhigpmchiaaaGreatDoor
set_option linter.unusedSimpArgs false
set_option linter.unusedVariables false
set_option maxRecDepth 20000
open Go.RowKit
open Go.ChangeShapes Go.WideShapes Go.Deep Go.Joins

theorem Bk.iterAt {w : World} {g k : Nat} {t : TypeId} {cs : Array Value} {s : ByteArray} {p q : Nat} (h : Bk w g t cs) (hne : g ≠ k) : Bk (w.iterAt k s q) g t cs := (Lib.iterAt_other w k g s q hne).trans h
set_option maxHeartbeats 3000000 in
theorem iPackBits_any (s : ByteArray) (hs : s.size ≤ 1048576) (hok : bitsOk s = true) (w : World) :
    Calls Tryz.prog 46 #[.string s] w fun e w' => e = .returned (.tuple #[.string ⟨(packTo s s.size).toArray⟩, .int .i64 0]) ∧ Below w.heap.size w w' := by
  obtain ⟨i0, hi0, hz0, hz1, hz2⟩ := info_parts byte_info
  obtain ⟨n, hn⟩ : ∃ n, (s.size + 7) / 8 = n := ⟨_, rfl⟩
  have hmk := make_rows (P := Tryz.prog) 54 5 i0 _ Tryz.underlying54 hi0 hz0 .i64 .i64 n (by rw [hz2]; omega) (by omega)
  rw [hz1, cells_made] at hmk
  have hdi : ((s.size : Int) + 7) / 8 = (n : Int) := by omega
  have HN := Lib.hid hn
  have H1 := Lib.hid hok
  clear hn hok
  go_enter Tryz.func46, Tryz.ntmps46
  go_wp2_with fail
  refine (areBits_is H1 hs _).mono ?_
  rintro e w1 ⟨rfl, hb1⟩
  go_wp2_with fail
  have hbs := hb1.size
  obtain ⟨W0, hW0⟩ : ∃ W0, w1.alloc (Obj.cells (byteRow (List.replicate n 0)).toArray 5) = W0 := ⟨_, rfl⟩
  have hz0' : W0.heap.size = w1.heap.size + 1 := by rw [← hW0]; simp
  have hbk0 : Hid (Bk W0 w1.heap.size 5 (byteRow (List.replicate n 0)).toArray) := by rw [← hW0]; exact heap_alloc_new w1 _
  have hb2 : Below w.heap.size w W0 := by rw [← hW0]; exact hb1.alloc hbs _
  have hk0 : (W0.iter s 0).heap[w1.heap.size + 1]? = some (.stringIter s 0) := by
    have h5 := World.iter_heap W0 s 0
    rw [hz0'] at h5
    exact h5
  have hbk1 : Hid (Bk (W0.iter s 0) w1.heap.size 5 (byteRow (List.replicate n 0)).toArray) := hbk0.out.alloc _
  have hw0 : Below w.heap.size w (W0.iter s 0) := hb2.alloc (by omega) _
  rw [hW0]
  go_loopw [5] (fun _ wr => ∃ (k : Nat) (l : List UInt8), k ≤ s.size ∧ Hid (wr.heap[w1.heap.size + 1]? = some (.stringIter s k)) ∧ Hid (packTo s k = l) ∧ Hid (Bk wr w1.heap.size 5 (byteRow l).toArray) ∧ Below w.heap.size w wr) (fun _ wr => s.size - wr.iterPos (w1.heap.size + 1))
  case atStart => exact ⟨0, List.replicate n 0, Nat.zero_le _, hk0, by rw [Hid, packTo, HN.out], hbk1, hw0⟩
  case round =>
    obtain ⟨k, l, hk, hit, hl, HB, hW⟩ := hrel
    clear hk0 hbk0 hbk1 hw0 hW0
    have hgl := HB.out.lt
    by_cases hlt : k < s.size
    · have hbit : isBit s[k] = true := List.all_eq_true.1 (bitsOk_all H1.out) _ (List.mem_of_getElem? (at_list hlt))
      have h128 : s[k].toNat < 128 := by have := bit_val hbit; omega
      have hnext : ∀ ty, (Instr.next (.pointer (some ⟨w1.heap.size + 1, 0, none⟩)) true ty).run Tryz.prog wr = _ := fun ty => Lib.run_next_ascii_at wr (w1.heap.size + 1) s k ty hit.out hlt h128
      have HB1 := Lib.hid (HB.out.iterAt (s := s) (q := k + 1) (k := w1.heap.size + 1) (p := k) (by omega))
      have hk1 := Lib.hid (Lib.iterAt_heap wr (w1.heap.size + 1) s k (k + 1) hit.out)
      have hW1 : Below w.heap.size w (wr.iterAt (w1.heap.size + 1) s (k + 1)) := Lib.below_iterAt hW (by omega) s (k + 1)
      have hmu : wr.iterPos (w1.heap.size + 1) = k := by simp [World.iterPos, hit.out]
      generalize wr.iterAt (w1.heap.size + 1) s (k + 1) = W1 at hnext HB1 hk1 hW1
      have hgl1 := HB1.out.lt
      clear hW hbit
      by_cases hone : s[k] = 49
      · obtain ⟨j, hj⟩ : ∃ j, k / 8 = j := ⟨_, rfl⟩
        obtain ⟨r, hr⟩ : ∃ r, k % 8 = r := ⟨_, rfl⟩
        have hll : l.length = n := by rw [← hl.out, packTo_len, HN.out]
        have hjn : j < n := by have := HN.out; omega
        obtain ⟨b, hb⟩ : ∃ b, l[j]? = some b := ⟨_, List.getElem?_eq_getElem (by omega)⟩
        have hnx := Lib.hid (packTo_one hlt hone hl.out hj hr hb)
        have c1 : W1.cell? ⟨w1.heap.size, j, none⟩ = some (.int .u8 (b.toNat : Int)) := (HB1.out.cell j).trans (row_at hb)
        have c1d : W1.drew.cell? ⟨w1.heap.size, j, none⟩ = some (.int .u8 (b.toNat : Int)) := c1
        have f1 := HB1.out.frozen j
        have f1d : W1.drew.frozen? ⟨w1.heap.size, j, none⟩ = false := f1
        have hji : (k : Int) / 8 = (j : Int) := by omega
        have hri : (k : Int) % 8 = (r : Int) := by omega
        have hr8 : r < 8 := by omega
        have hor := orB_is b r hr8
        have ev : (s[k].toNat : Int) = 49 := by rw [hone]; rfl
        have HX := Lib.hid (row_set l j (orB b r))
        obtain ⟨x, hx⟩ : ∃ x, (orB b r) = x := ⟨_, rfl⟩
        rw [hx] at hor hnx HX
        clear hone hj hr hb hx hll
        go_wp2_with fail
        go_region
        all_goals go_wp2_with fail
        go_roundw
        case rel => exact ⟨k + 1, l.set j x, by omega, (Below.heap_setCell W1 ⟨w1.heap.size, j, none⟩ (.int .u8 (x.toNat : Int)) (w1.heap.size + 1) (by simp)).trans hk1.out, hnx, by rw [← HX.out]; exact HB1.out.put _ _, by go_grown⟩
        case measure =>
          have hmu2 : W1.iterPos (w1.heap.size + 1) = k + 1 := by simp [World.iterPos, hk1.out]
          have hmu3 : (W1.setCell ⟨w1.heap.size, j, none⟩ (.int .u8 (x.toNat : Int))).drew.iterPos (w1.heap.size + 1) = k + 1 := by
            have h9 : (W1.setCell ⟨w1.heap.size, j, none⟩ (.int .u8 (x.toNat : Int))).drew.heap[w1.heap.size + 1]? = some (.stringIter s (k + 1)) := (Below.heap_setCell W1 ⟨w1.heap.size, j, none⟩ (.int .u8 (x.toNat : Int)) (w1.heap.size + 1) (by simp)).trans hk1.out
            simp [World.iterPos, h9]
          first
            | (rw [hmu, hmu3]; omega)
            | (show s.size - (W1.setCell ⟨w1.heap.size, j, none⟩ (.int .u8 (x.toNat : Int))).drew.iterPos (w1.heap.size + 1) < _; rw [hmu, hmu3]; omega)
      · have ev : ((s[k].toNat : Int) == 49) = false := beq_eq_false_iff_ne.2 fun e => hone (by apply UInt8.toNat_inj.1; show _ = 49; omega)
        have hnx := Lib.hid ((packTo_zero hlt hone).trans hl.out)
        clear hone
        go_wp2_with fail
        go_roundw
        case rel => exact ⟨k + 1, l, by omega, hk1, hnx, HB1, hW1⟩
        case measure =>
          have hmu2 : W1.iterPos (w1.heap.size + 1) = k + 1 := by simp [World.iterPos, hk1.out]
          rw [hmu, hmu2]
          omega
    · obtain rfl : k = s.size := by omega
      have hnext : ∀ ty, (Instr.next (.pointer (some ⟨w1.heap.size + 1, 0, none⟩)) true ty).run Tryz.prog wr = _ := fun ty => Lib.run_next_end_at wr (w1.heap.size + 1) s s.size ty hit.out hlt
      have hll : Hid (l.length = n) := by rw [Hid, ← hl.out, packTo_len, HN.out]
      have hcv := string_of_bk HB.out hll.out
      go_wp2_with fail
      refine bodyPost_ret (by simp [results, Tryz.results46, go_sem, *]; try rfl) rfl ?_
      exact ⟨by rw [hl.out], hW⟩
end Go.Proofs.YtinlhigpmchiaaaGreatDoor
